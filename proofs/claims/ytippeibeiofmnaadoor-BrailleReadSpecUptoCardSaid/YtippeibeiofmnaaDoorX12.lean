
import Derived.Test.YtippeibeiofmnaaDoorRows
import Derived.Shelf.Strings.Builder1
import Derived.Test.YtippeibeiofmnaaDoorAbsB
set_option linter.unusedVariables false
set_option linter.unusedSimpArgs false
set_option linter.unusedSectionVars false
set_option linter.deprecated false
namespace Go.Proofs
open Go.Ab Go.RowKit Go.Lib
set_option maxRecDepth 1000000
theorem wpList_append_run {P : Program} {w : World} {ops : Array Oper} {rest : List Oper} {o : Oper} {a : Act} {Q : Exit → Act → World → Prop} (hgd : o.guard = none) (sl x : Operand) (t u : TypeId)
  (ho : o.op = .call { callee := .builtin .append, args := #[sl, x], argTypes := #[t, u] }) (vs vx v' : Value) (w' : World) (hs : a.eval sl = vs) (hx : a.eval x = vx)
  (hr : (Builtin.append_ #[t, u] o.type #[vs, vx]).run P w = .ok v' w') (h : wpList P ops Q rest (a.put o.dst v') w') : wpList P ops Q (o :: rest) a w := by
 refine wpList_plain hgd fun K hK => ?_
 unfold Oper.wp execOp
 simp only [ho, resolve, invoke, builtin, Sem.run_bind, Sem.run_pure, Result.andThen_ok, List.map_toArray, List.map_cons, List.map_nil, hs, hx, hr]
 exact hK _ _ h
theorem run_append_own2 {P : Program} (w : World) (base : Nat) (t u ty e : TypeId) (i : TypeInfo) (ht : P.underlying t = some (.slice e)) (hu : P.underlying u = some .string) (hi : P.info? e = some i) (hz : i.zero = some (.int .u8 0))
  (hsize : i.size = 1) (hby : i.bytes = 1)
  (v : Value) (n : Nat) (xs : List Value) (hown : w.ownsRow base e 1 v n xs) (s : ByteArray)
  (h63 : n + s.size ≤ maxLen) (hbytes : n + s.size ≤ 140737488355328) (hbase : base ≤ w.heap.size) :
  ∃ v' w', (Builtin.append_ #[t, u] ty #[v, .string s]).run P w = .ok v' w' ∧ w'.ownsRow base e 1 v' (n + s.size) (xs ++ strCells s) ∧ w.grownBy w' v.ownBlock ∧ (v'.ownBlock = v.ownBlock ∨ ∃ k, v'.ownBlock = some k ∧ w.heap.size ≤ k) := by
 obtain ⟨v', w', hr, h1, h2, h3⟩ := run_append_own_string (P := P) w base t u ty e i ht hu hi hz hsize hby v n xs hown s h63 hbytes hbase
 refine ⟨v', w', hr, h1, h2, ?_⟩
 rcases hown.2 with ⟨rfl, rfl⟩ | ⟨g, cap, cur, rfl, hbg, hg, hnc, hcm, hcs, htake⟩
 ·have hx : xs = [] := List.eq_nil_of_length_eq_zero (by simpa using hown.1)
  subst hx
  obtain ⟨v2, w2, hr2, k1, _⟩ := run_append_own_string (P := P) w w.heap.size t u ty e i ht hu hi hz hsize hby (.slice none 0 0) 0 [] (World.ownsRow_nil _ _ _ _) s h63 hbytes (Nat.le_refl _)
  rw [hr] at hr2
  simp only [Result.ok.injEq] at hr2
  obtain ⟨rfl, rfl⟩ := hr2
  cases hob : v'.ownBlock with
  | none => exact .inl rfl
  | some k => exact .inr ⟨k, rfl, (k1.lt k hob).1⟩
 ·have hxl : xs.length = n := by simpa using hown.1
  by_cases hroom : n + s.size ≤ cap
  ·have hcs' : cur.size = cap := by simpa using hcs
   have hr2 := run_append_room_string (P := P) w t u ty e i ht hu hi hsize g n cap cur hg s hroom (by omega)
   rw [hr] at hr2
   simp only [Result.ok.injEq] at hr2
   obtain ⟨rfl, rfl⟩ := hr2
   exact .inl rfl
  ·have holds : ∀ j u, xs[j]? = some u → w.cell? ((⟨g, 0, none⟩ : Addr).add j) = some u := hown.cells (g := g) rfl
   have hr2 := run_append_grow_string (P := P) w t u ty e i (.int .u8 0) ht hu hi hz ⟨g, 0, none⟩ n cap xs (by rw [hsize]; simpa using hxl) holds s (by omega) (by omega) (by rw [hby]; exact growslice_fits (by omega) (by omega))
   rw [hr] at hr2
   simp only [Result.ok.injEq] at hr2
   obtain ⟨rfl, rfl⟩ := hr2
   exact .inr ⟨_, rfl, Nat.le_refl _⟩
theorem strCells_byteV (s : List UInt8) : strCells ⟨s.toArray⟩ = byteV s := by simp [strCells, byteV]
set_option maxHeartbeats 1000000 in
theorem bld_copy_used (b : Nat) (w : World) (h0 : w.cell? ⟨b, 0, none⟩ = some (.pointer (some ⟨b, 0, none⟩))) :
  Calls Tryd.prog 63 #[.pointer (some ⟨b, 0, none⟩)] w fun e w' => e = .returned (.tuple #[]) ∧ w' = w := by
 obtain ⟨j, hj, _⟩ := Option.map_eq_some_iff.1 (show (Tryd.prog.info? 60).map (·.size) = some 2 by kernel_rfl)
 have mixed : Tryd.prog.follows .mixedOrders = true := Eq.refl true
 have t72 := Tryd.underlying60; have a72 := Tryd.isAgg60; have z72 := Tryd.sizeOf60; have v72 := Tryd.zeroValue60; have u72 := run_underlying t72
 have t70 := Tryd.underlying58; have a70 := Tryd.isAgg58; have z70 := Tryd.sizeOf58; have v70 := Tryd.zeroValue58; have u70 := run_underlying t70
 have t4 := Tryd.underlying4; have a4 := Tryd.isAgg4; have z4 := Tryd.sizeOf4; have v4 := Tryd.zeroValue4; have u4 := run_underlying t4
 go_enter Tryd.func63, (show Tryd.f63.ntmps = 20 from rfl)
 go_wp2
 rw [Lib.run_neq_ptr_same w _ t70 hj]
 go_wp2
 go_end0
 exact ⟨rfl, rfl⟩
set_option maxHeartbeats 1000000 in
theorem bld_copy_fresh (b : Nat) (w : World) (h0 : w.cell? ⟨b, 0, none⟩ = some (.pointer none)) (hsh : w.shape? b = some (60, 2)) (hfz : w.frozen? ⟨b, 0, none⟩ = false) :
  Calls Tryd.prog 63 #[.pointer (some ⟨b, 0, none⟩)] w fun e w' => e = .returned (.tuple #[]) ∧ w' = w.setCell ⟨b, 0, none⟩ (.pointer (some ⟨b, 0, none⟩)) := by
 obtain ⟨j, hj, hjs⟩ := Option.map_eq_some_iff.1 (show (Tryd.prog.info? 60).map (·.size) = some 2 by kernel_rfl)
 have mixed : Tryd.prog.follows .mixedOrders = true := Eq.refl true
 have t72 := Tryd.underlying60; have a72 := Tryd.isAgg60; have z72 := Tryd.sizeOf60; have v72 := Tryd.zeroValue60; have u72 := run_underlying t72
 have t70 := Tryd.underlying58; have a70 := Tryd.isAgg58; have z70 := Tryd.sizeOf58; have v70 := Tryd.zeroValue58; have u70 := run_underlying t70
 have t4 := Tryd.underlying4; have a4 := Tryd.isAgg4; have z4 := Tryd.sizeOf4; have v4 := Tryd.zeroValue4; have u4 := run_underlying t4
 have t164 := Tryd.underlying108; have a164 := Tryd.isAgg108; have z164 := Tryd.sizeOf108; have v164 := Tryd.zeroValue108; have u164 := run_underlying t164
 go_enter Tryd.func63, (show Tryd.f63.ntmps = 20 from rfl)
 go_wp2
 rw [Lib.run_to_unsafe w ⟨b, 0, none⟩ t70 t164 hj (by rw [hjs]; decide) hsh (Nat.zero_lt_succ 1)]
 simp only [Result.andThen]
 rw [Oper.upon_value]
 go_wp2
 rw [run_callFunc_extern Tryd.func75 (by kernel_rfl) (by kernel_rfl) (by kernel_rfl) (e := Extern.AbiNoEscape.same) (by kernel_rfl)]
 rw [Lib.run_noEscape]
 simp only [Result.andThen]
 rw [Oper.upon_value]
 go_wp2
 rw [Lib.run_from_unsafe w ⟨b, 0, none⟩ t164 t70 hj hsh (by kernel_rfl)]
 simp only [Result.andThen]
 rw [Oper.upon_value]
 go_wp2
 go_end0
 exact ⟨rfl, rfl⟩
theorem bld_row {w : World} {b : Nat} {v : Value} {n : Nat} {xs : List Value} (hown : w.ownsRow b 5 1 v n xs) : ∃ ao cap, v = .slice ao n cap := by
 rcases hown.2 with ⟨hv, h0⟩ | ⟨g, cap, cur, hv, _⟩
 ·exact ⟨none, 0, by rw [hv, h0]⟩
 ·exact ⟨_, _, hv⟩
theorem bld_lt {w : World} {b : Nat} {o : Obj} (h : w.heap[b]? = some o) : b < w.heap.size := by
 rcases Nat.lt_or_ge b w.heap.size with h' | h'
 ·exact h'
 ·simp [Array.getElem?_eq_none h'] at h
theorem bld_copy (b : Nat) (v : Value) (u : Bool) (n : Nat) (xs : List Value) (w : World) (hb : w.heap[b]? = some (.cells #[bldP b u, v] 60 (0, 0))) (hown : w.ownsRow b 5 1 v n xs) (hne : v.ownBlock ≠ some b) :
  Calls Tryd.prog 63 #[.pointer (some ⟨b, 0, none⟩)] w fun e w' => e = .returned (.tuple #[]) ∧ w'.heap[b]? = some (.cells #[.pointer (some ⟨b, 0, none⟩), v] 60 (0, 0)) ∧ w'.ownsRow b 5 1 v n xs ∧ FrB b none w w' ∧ w'.heap.size = w.heap.size := by
 cases u with
 | true =>
  refine (bld_copy_used b w (by rw [Lib.cell_of_heap hb]; rfl)).mono ?_
  rintro e w' ⟨rfl, rfl⟩
  exact ⟨rfl, hb, hown, ⟨rfl, rfl, rfl, Nat.le_refl _, fun _ _ _ _ => rfl⟩, rfl⟩
 | false =>
  refine (bld_copy_fresh b w (by rw [Lib.cell_of_heap hb]; rfl) (by simp [World.shape?, hb]) (Lib.frozen_of_heap hb 0)).mono ?_
  rintro e w' ⟨rfl, rfl⟩
  refine ⟨rfl, by simp [World.setCell, Array.getElem?_modify, hb, bldP], hown.kept (row := some b) ⟨rfl, rfl, rfl, by simp [World.setCell], fun k _ hk => Below.heap_setCell _ _ _ _ (fun e => hk (by simp [e]))⟩ (.inr hne), ⟨rfl, rfl, rfl, by simp [World.setCell], fun k _ hk _ => Below.heap_setCell _ _ _ _ hk⟩, by simp [World.setCell]⟩
set_option maxHeartbeats 2000000 in
theorem bld_write : WriteOk Tryd.prog 38 60 5 := by
 refine ⟨enters_of Tryd.func38 (by kernel_rfl) rfl, ?_⟩
 intro b v u s0 s w hb hown hne hl
 obtain ⟨i0, hi, hz0, hz1, hz2⟩ := info_parts (show (Tryd.prog.info? 5).map (fun i => (i.zero, i.size, i.bytes)) = some (some (.int .u8 0), 1, 1) by kernel_rfl)
 have mixed : Tryd.prog.follows .mixedOrders = true := Eq.refl true
 have t72 := Tryd.underlying60; have a72 := Tryd.isAgg60; have z72 := Tryd.sizeOf60; have v72 := Tryd.zeroValue60; have u72 := run_underlying t72
 have t70 := Tryd.underlying58; have a70 := Tryd.isAgg58; have z70 := Tryd.sizeOf58; have v70 := Tryd.zeroValue58; have u70 := run_underlying t70
 have t37 := Tryd.underlying36; have a37 := Tryd.isAgg36; have z37 := Tryd.sizeOf36; have v37 := Tryd.zeroValue36; have u37 := run_underlying t37
 have t3 := Tryd.underlying3; have a3 := Tryd.isAgg3; have z3 := Tryd.sizeOf3; have v3 := Tryd.zeroValue3; have u3 := run_underlying t3
 have t9 := Tryd.underlying9; have a9 := Tryd.isAgg9; have z9 := Tryd.sizeOf9; have v9 := Tryd.zeroValue9; have u9 := run_underlying t9
 have t4 := Tryd.underlying4; have a4 := Tryd.isAgg4; have z4 := Tryd.sizeOf4; have v4 := Tryd.zeroValue4; have u4 := run_underlying t4
 have t5 := Tryd.underlying5; have a5 := Tryd.isAgg5; have z5 := Tryd.sizeOf5; have v5 := Tryd.zeroValue5; have u5 := run_underlying t5
 have e240 : ∀ args w, (callFunc 63 args).run Tryd.prog w = .ok (.enter 63 args) w := enters_of Tryd.func63 (by kernel_rfl) rfl
 have hss : (⟨s.toArray⟩ : ByteArray).size = s.length := by simp [ByteArray.size]
 have hlt0 := bld_lt hb
 go_enter Tryd.func38, (show Tryd.f38.ntmps = 19 from rfl)
 go_wp2_with (go_at_fn 63; refine (bld_copy b v u s0.length (byteV s0) _ hb hown hne).mono ?_)
 rintro e w1 ⟨rfl, hbk, hown, hf1, hsz⟩
 have c0 : w1.cell? ⟨b, 0, none⟩ = some (.pointer (some ⟨b, 0, none⟩)) := by rw [Lib.cell_of_heap hbk]; rfl
 have c1 : w1.cell? ⟨b, 1, none⟩ = some v := by rw [Lib.cell_of_heap hbk]; rfl
 obtain ⟨v', w2, hr, hown', hgrow, hrow⟩ := run_append_own2 (P := Tryd.prog) w1 b 36 9 36 5 i0 t37 t9 hi hz0 hz1 hz2 v s0.length (byteV s0) hown ⟨s.toArray⟩ (by rw [hss]; unfold maxLen; omega) (by rw [hss]; omega) (by omega)
 rw [hss, strCells_byteV] at hown'
 have hlt : b < w1.heap.size := bld_lt hbk
 have hb2 : w2.heap[b]? = some (.cells #[.pointer (some ⟨b, 0, none⟩), v] 60 (0, 0)) := by
  rw [hgrow.block b hlt (fun e => hne e.symm)]
  exact hbk
 have d0 : w2.cell? ⟨b, 0, none⟩ = some (.pointer (some ⟨b, 0, none⟩)) := by rw [Lib.cell_of_heap hb2]; rfl
 have d1 : w2.cell? ⟨b, 1, none⟩ = some v := by rw [Lib.cell_of_heap hb2]; rfl
 have f1 : w2.frozen? ⟨b, 1, none⟩ = false := Lib.frozen_of_heap hb2 1
 obtain ⟨ao, cap, rfl⟩ := bld_row hown'
 have hne2 : (Value.slice ao (s0.length + s.length) cap).ownBlock ≠ some b := Lib.ownBlock_ne hown' hb2 (by decide)
 go_wp2_with (at_builtin; refine wpList_append_run rfl _ _ 36 9 rfl v (.string ⟨s.toArray⟩) _ w2 rfl rfl hr ?_)
 go_wp2
 go_ret2
 refine ⟨rfl, .slice ao (s0.length + s.length) cap, by simp [World.setCell, Array.getElem?_modify, hb2, bldP], ?_, ?_, ⟨?_, ?_, ?_, ?_, ?_⟩⟩
 ·have e1 : byteV (s0 ++ s) = byteV s0 ++ byteV s := by simp [byteV]
  rw [List.length_append, e1]
  exact hown'.kept (row := some b) ⟨rfl, rfl, rfl, by simp [World.setCell], fun k _ hk => Below.heap_setCell _ _ _ _ (fun e => hk (by simp [e]))⟩ (.inr hne2)
 ·rcases hrow with h | ⟨k, h1, h2⟩
  ·exact .inl h
  ·exact .inr ⟨k, h1, by omega⟩
 ·exact hgrow.os.trans hf1.os
 ·exact hgrow.tape.trans hf1.tape
 ·exact hgrow.output.trans hf1.output
 ·have := hgrow.size; simp [World.setCell]; omega
 ·intro k hk hkb hkr
  rw [Below.heap_setCell _ _ _ _ hkb, hgrow.block k (by omega) hkr]
  exact hf1.block k hk hkb (by simp)
set_option maxHeartbeats 1000000 in
theorem bld_len : LenOk Tryd.prog 39 60 5 := by
 refine ⟨enters_of Tryd.func39 (by kernel_rfl) rfl, ?_⟩
 intro b v u s0 w hb hown hne
 obtain ⟨ao, cap, rfl⟩ := bld_row hown
 have c1 : w.cell? ⟨b, 1, none⟩ = some (.slice ao s0.length cap) := by rw [Lib.cell_of_heap hb]; rfl
 have mixed : Tryd.prog.follows .mixedOrders = true := Eq.refl true
 have t72 := Tryd.underlying60; have a72 := Tryd.isAgg60; have z72 := Tryd.sizeOf60; have v72 := Tryd.zeroValue60; have u72 := run_underlying t72
 have t70 := Tryd.underlying58; have a70 := Tryd.isAgg58; have z70 := Tryd.sizeOf58; have v70 := Tryd.zeroValue58; have u70 := run_underlying t70
 have t37 := Tryd.underlying36; have a37 := Tryd.isAgg36; have z37 := Tryd.sizeOf36; have v37 := Tryd.zeroValue36; have u37 := run_underlying t37
 have t3 := Tryd.underlying3; have a3 := Tryd.isAgg3; have z3 := Tryd.sizeOf3; have v3 := Tryd.zeroValue3; have u3 := run_underlying t3
 have t9 := Tryd.underlying9; have a9 := Tryd.isAgg9; have z9 := Tryd.sizeOf9; have v9 := Tryd.zeroValue9; have u9 := run_underlying t9
 have t4 := Tryd.underlying4; have a4 := Tryd.isAgg4; have z4 := Tryd.sizeOf4; have v4 := Tryd.zeroValue4; have u4 := run_underlying t4
 have t5 := Tryd.underlying5; have a5 := Tryd.isAgg5; have z5 := Tryd.sizeOf5; have v5 := Tryd.zeroValue5; have u5 := run_underlying t5
 go_enter Tryd.func39, (show Tryd.f39.ntmps = 8 from rfl)
 go_wp2
 go_ret
 exact ⟨rfl, rfl⟩
set_option maxHeartbeats 4000000 in
theorem bld_string : StringOk Tryd.prog 40 60 5 := by
 refine ⟨enters_of Tryd.func40 (by kernel_rfl) rfl, ?_⟩
 intro b v u s0 w hbk hown hne
 have hUS : ∀ (W : World) (q : Option Addr), (Builtin.unsafeString_ #[98, 3] 9 #[.pointer q, .int .i64 0]).run Tryd.prog W = .ok (.string .empty) W := fun W q => Lib.run_unsafeString_none W _ _ _ q
 have hfr : FrB b v.ownBlock w w.drew := ⟨rfl, rfl, rfl, Nat.le_refl _, fun _ _ _ _ => rfl⟩
 have hbk' : w.drew.heap[b]? = some (.cells #[bldP b u, v] 60 (0, 0)) := hbk
 by_cases h0 : s0 = []
 ·subst h0
  rcases hown.2 with ⟨rfl, _⟩ | ⟨g, cap, cur, rfl, hbg, hg, hnc, hcm, hcs, htake⟩
  ·have c1 : w.drew.cell? ⟨b, 1, none⟩ = some (.slice none 0 0) := by rw [Lib.cell_of_heap hbk']; rfl
   have hSD : (Builtin.unsafeSliceData_ #[36] 98 #[.slice none 0 0]).run Tryd.prog w.drew = .ok (.pointer none) w.drew := rfl
   clear hown hne hbk hbk'
   have mixed : Tryd.prog.follows .mixedOrders = true := Eq.refl true
   have t72 := Tryd.underlying60; have a72 := Tryd.isAgg60; have z72 := Tryd.sizeOf60; have v72 := Tryd.zeroValue60; have u72 := run_underlying t72
   have t70 := Tryd.underlying58; have a70 := Tryd.isAgg58; have z70 := Tryd.sizeOf58; have v70 := Tryd.zeroValue58; have u70 := run_underlying t70
   have t37 := Tryd.underlying36; have a37 := Tryd.isAgg36; have z37 := Tryd.sizeOf36; have v37 := Tryd.zeroValue36; have u37 := run_underlying t37
   have t3 := Tryd.underlying3; have a3 := Tryd.isAgg3; have z3 := Tryd.sizeOf3; have v3 := Tryd.zeroValue3; have u3 := run_underlying t3
   have t9 := Tryd.underlying9; have a9 := Tryd.isAgg9; have z9 := Tryd.sizeOf9; have v9 := Tryd.zeroValue9; have u9 := run_underlying t9
   have t4 := Tryd.underlying4; have a4 := Tryd.isAgg4; have z4 := Tryd.sizeOf4; have v4 := Tryd.zeroValue4; have u4 := run_underlying t4
   have t5 := Tryd.underlying5; have a5 := Tryd.isAgg5; have z5 := Tryd.sizeOf5; have v5 := Tryd.zeroValue5; have u5 := run_underlying t5
   have t127 := Tryd.underlying98; have a127 := Tryd.isAgg98; have z127 := Tryd.sizeOf98; have v127 := Tryd.zeroValue98; have u127 := run_underlying t127
   go_enter Tryd.func40, (show Tryd.f40.ntmps = 14 from rfl)
   go_wp2
   go_region_o
   all_goals (go_wp2; go_ret; exact ⟨rfl, hfr⟩)
  ·by_cases hc0 : cap = 0
   ·subst hc0
    have hlt := bld_lt hbk
    have hg' : w.drew.heap[g]? = some (.cells cur 5 (0, 0)) := hg
    have c1 : w.drew.cell? ⟨b, 1, none⟩ = some (.slice (some ⟨g, 0, none⟩) 0 0) := by rw [Lib.cell_of_heap hbk']; rfl
    have hSD : (Builtin.unsafeSliceData_ #[36] 98 #[.slice (some ⟨g, 0, none⟩) 0 0]).run Tryd.prog w.drew = .ok (.pointer (some ⟨w.drew.heap.size, 0, none⟩)) (w.drew.alloc (.view ⟨g, 0, none⟩ 5)) :=
     Lib.run_unsafeSliceData_zero w.drew _ _ 5 Tryd.underlying98 ⟨g, 0, none⟩ 0 (5, cur.size) (by simp [World.shape?, hg'])
    have c2 : (w.drew.alloc (.view ⟨g, 0, none⟩ 5)).cell? ⟨b, 1, none⟩ = some (.slice (some ⟨g, 0, none⟩) 0 0) := by
     have : (w.drew.alloc (.view ⟨g, 0, none⟩ 5)).heap[b]? = _ := (Lib.alloc_old w.drew _ b hlt).trans hbk'
     rw [Lib.cell_of_heap this]; rfl
    have c3 : (w.alloc (.view ⟨g, 0, none⟩ 5)).drew.cell? ⟨b, 1, none⟩ = some (.slice (some ⟨g, 0, none⟩) 0 0) := c2
    have c0 : w.cell? ⟨b, 1, none⟩ = some (.slice (some ⟨g, 0, none⟩) 0 0) := c1
    have hfr2 : FrB b (Value.slice (some ⟨g, 0, none⟩) 0 0).ownBlock w (w.drew.alloc (.view ⟨g, 0, none⟩ 5)) := ⟨rfl, rfl, rfl, by simp, fun k hk _ _ => Lib.alloc_old w.drew _ k hk⟩
    clear hown hne hbk hbk' hg hg' hcs htake hcm hnc hbg
    have mixed : Tryd.prog.follows .mixedOrders = true := Eq.refl true
    have t72 := Tryd.underlying60; have a72 := Tryd.isAgg60; have z72 := Tryd.sizeOf60; have v72 := Tryd.zeroValue60; have u72 := run_underlying t72
    have t70 := Tryd.underlying58; have a70 := Tryd.isAgg58; have z70 := Tryd.sizeOf58; have v70 := Tryd.zeroValue58; have u70 := run_underlying t70
    have t37 := Tryd.underlying36; have a37 := Tryd.isAgg36; have z37 := Tryd.sizeOf36; have v37 := Tryd.zeroValue36; have u37 := run_underlying t37
    have t3 := Tryd.underlying3; have a3 := Tryd.isAgg3; have z3 := Tryd.sizeOf3; have v3 := Tryd.zeroValue3; have u3 := run_underlying t3
    have t9 := Tryd.underlying9; have a9 := Tryd.isAgg9; have z9 := Tryd.sizeOf9; have v9 := Tryd.zeroValue9; have u9 := run_underlying t9
    have t4 := Tryd.underlying4; have a4 := Tryd.isAgg4; have z4 := Tryd.sizeOf4; have v4 := Tryd.zeroValue4; have u4 := run_underlying t4
    have t5 := Tryd.underlying5; have a5 := Tryd.isAgg5; have z5 := Tryd.sizeOf5; have v5 := Tryd.zeroValue5; have u5 := run_underlying t5
    have t127 := Tryd.underlying98; have a127 := Tryd.isAgg98; have z127 := Tryd.sizeOf98; have v127 := Tryd.zeroValue98; have u127 := run_underlying t127
    go_enter Tryd.func40, (show Tryd.f40.ntmps = 14 from rfl)
    go_wp2
    go_region_o
    all_goals (go_wp2; go_ret; exact ⟨rfl, hfr2⟩)
   ·have c1 : w.drew.cell? ⟨b, 1, none⟩ = some (.slice (some ⟨g, 0, none⟩) 0 cap) := by rw [Lib.cell_of_heap hbk']; rfl
    have hSD : (Builtin.unsafeSliceData_ #[36] 98 #[.slice (some ⟨g, 0, none⟩) 0 cap]).run Tryd.prog w.drew = .ok (.pointer (some ⟨g, 0, none⟩)) w.drew :=
     Lib.run_unsafeSliceData_row _ _ _ _ _ _ hc0
    clear hown hne hbk hbk' hg hcs htake hcm hnc hbg hc0
    have mixed : Tryd.prog.follows .mixedOrders = true := Eq.refl true
    have t72 := Tryd.underlying60; have a72 := Tryd.isAgg60; have z72 := Tryd.sizeOf60; have v72 := Tryd.zeroValue60; have u72 := run_underlying t72
    have t70 := Tryd.underlying58; have a70 := Tryd.isAgg58; have z70 := Tryd.sizeOf58; have v70 := Tryd.zeroValue58; have u70 := run_underlying t70
    have t37 := Tryd.underlying36; have a37 := Tryd.isAgg36; have z37 := Tryd.sizeOf36; have v37 := Tryd.zeroValue36; have u37 := run_underlying t37
    have t3 := Tryd.underlying3; have a3 := Tryd.isAgg3; have z3 := Tryd.sizeOf3; have v3 := Tryd.zeroValue3; have u3 := run_underlying t3
    have t9 := Tryd.underlying9; have a9 := Tryd.isAgg9; have z9 := Tryd.sizeOf9; have v9 := Tryd.zeroValue9; have u9 := run_underlying t9
    have t4 := Tryd.underlying4; have a4 := Tryd.isAgg4; have z4 := Tryd.sizeOf4; have v4 := Tryd.zeroValue4; have u4 := run_underlying t4
    have t5 := Tryd.underlying5; have a5 := Tryd.isAgg5; have z5 := Tryd.sizeOf5; have v5 := Tryd.zeroValue5; have u5 := run_underlying t5
    have t127 := Tryd.underlying98; have a127 := Tryd.isAgg98; have z127 := Tryd.sizeOf98; have v127 := Tryd.zeroValue98; have u127 := run_underlying t127
    go_enter Tryd.func40, (show Tryd.f40.ntmps = 14 from rfl)
    go_wp2
    go_region_o
    all_goals (go_wp2; go_ret; exact ⟨rfl, hfr⟩)
 ·have hl0 : s0.length ≠ 0 := by simpa using h0
  obtain ⟨g, cap, cur, rfl, hbg, hg, hnc, hcm, hcs, htake⟩ : ∃ g cap cur, v = .slice (some ⟨g, 0, none⟩) s0.length cap ∧ b ≤ g ∧ w.heap[g]? = some (.cells cur 5 (0, 0)) ∧ s0.length ≤ cap ∧ cap ≤ maxLen ∧ cur.size = cap * 1 ∧ cur.toList.take (s0.length * 1) = byteV s0 := by
   rcases hown.2 with ⟨_, hz⟩ | ⟨g, cap, cur, hv, r⟩
   ·exact absurd hz hl0
   ·exact ⟨g, cap, cur, hv, r⟩
  have hg' : w.drew.heap[g]? = some (.cells cur 5 (0, 0)) := hg
  have c1 : w.drew.cell? ⟨b, 1, none⟩ = some (.slice (some ⟨g, 0, none⟩) s0.length cap) := by rw [Lib.cell_of_heap hbk']; rfl
  have hSD : (Builtin.unsafeSliceData_ #[36] 98 #[.slice (some ⟨g, 0, none⟩) s0.length cap]).run Tryd.prog w.drew = .ok (.pointer (some ⟨g, 0, none⟩)) w.drew :=
   Lib.run_unsafeSliceData_row _ _ _ _ _ _ (by omega)
  have hUS2 : (Builtin.unsafeString_ #[98, 3] 9 #[.pointer (some ⟨g, 0, none⟩), .int .i64 s0.length]).run Tryd.prog w.drew = .ok (.string ⟨s0.toArray⟩) (w.drew.freeze ⟨g, 0, none⟩ s0.length) := by
   refine Lib.run_unsafeString_row w.drew 98 3 9 5 Tryd.underlying98 (by kernel_rfl) g cur.size (by simp [World.shape?, hg']) s0 h0 (by omega) (by unfold maxLen at hcm; omega) ?_
   intro j x hx
   exact hown.cells (g := g) rfl j (.int .u8 x.toNat) (by simp [byteV, hx])
  have hfr2 : FrB b (Value.slice (some ⟨g, 0, none⟩) s0.length cap).ownBlock w (w.drew.freeze ⟨g, 0, none⟩ s0.length) := by
   unfold World.freeze
   rw [if_neg hl0]
   refine ⟨rfl, rfl, rfl, by simp, fun k _ _ hk => ?_⟩
   have hkg : ¬ g = k := fun e => hk (by simp [Value.ownBlock, e])
   simp only [Array.getElem?_modify]
   rw [if_neg hkg]; rfl
  clear hown hne hbk hbk' hg hg' hcs htake hcm hnc hbg hUS hl0 h0
  have mixed : Tryd.prog.follows .mixedOrders = true := Eq.refl true
  have t72 := Tryd.underlying60; have a72 := Tryd.isAgg60; have z72 := Tryd.sizeOf60; have v72 := Tryd.zeroValue60; have u72 := run_underlying t72
  have t70 := Tryd.underlying58; have a70 := Tryd.isAgg58; have z70 := Tryd.sizeOf58; have v70 := Tryd.zeroValue58; have u70 := run_underlying t70
  have t37 := Tryd.underlying36; have a37 := Tryd.isAgg36; have z37 := Tryd.sizeOf36; have v37 := Tryd.zeroValue36; have u37 := run_underlying t37
  have t3 := Tryd.underlying3; have a3 := Tryd.isAgg3; have z3 := Tryd.sizeOf3; have v3 := Tryd.zeroValue3; have u3 := run_underlying t3
  have t9 := Tryd.underlying9; have a9 := Tryd.isAgg9; have z9 := Tryd.sizeOf9; have v9 := Tryd.zeroValue9; have u9 := run_underlying t9
  have t4 := Tryd.underlying4; have a4 := Tryd.isAgg4; have z4 := Tryd.sizeOf4; have v4 := Tryd.zeroValue4; have u4 := run_underlying t4
  have t5 := Tryd.underlying5; have a5 := Tryd.isAgg5; have z5 := Tryd.sizeOf5; have v5 := Tryd.zeroValue5; have u5 := run_underlying t5
  have t127 := Tryd.underlying98; have a127 := Tryd.isAgg98; have z127 := Tryd.sizeOf98; have v127 := Tryd.zeroValue98; have u127 := run_underlying t127
  go_enter Tryd.func40, (show Tryd.f40.ntmps = 14 from rfl)
  go_wp2
  go_region_o
  all_goals (go_wp2; go_ret; exact ⟨rfl, hfr2⟩)
end Go.Proofs
