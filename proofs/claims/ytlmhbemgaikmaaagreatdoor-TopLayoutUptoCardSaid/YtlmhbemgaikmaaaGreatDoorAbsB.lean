/- A part of the proof. -/
import Derived.Test.YtlmhbemgaikmaaaGreatDoorAbsA
import Derived.Laws.Tables
import Derived.Laws.AppendOwn
import Derived.IntWalk
import Derived.AtR
import Derived.RangeFuncRecord
import Derived.RangeFuncIn
import Derived.Defers
import Derived.RangeFuncLeaves
set_option linter.unusedVariables false
set_option linter.unusedSimpArgs false
set_option linter.unusedSectionVars false
set_option linter.deprecated false
namespace Go.Ab
open Go.RowKit (Below)
variable {P : Program} {g : Gh} {n0 : Nat} {H : Heap} {w : World}
theorem lenV_run {t : TypeId} {x y : V} (h : lenV P H t x = some y) (hI : Inv g n0 H w) {v : Value} (r : Rep g x v) (ts : Array TypeId) (ty : TypeId) (args : Array Value)
    (ht : ts[0]? = some t) (ha : args[0]? = some v) : ∃ u, (Builtin.len_ ts ty args).run P w = .ok u w ∧ Rep g y u := by
  unfold lenV at h
  split at h
  · rename_i s hu
    have := rep_str r; subst this
    simp only [Option.some.injEq] at h; subst h
    have hsz : (⟨s.toArray⟩ : ByteArray).size = s.length := by simp [ByteArray.size]
    exact ex_int (by simp [Builtin.len_, ht, ha, run_underlying hu, goInt, hsz])
  · rename_i hu
    simp only [Rep] at r
    obtain ⟨a, cap, rfl, _⟩ := r
    simp only [Option.some.injEq] at h; subst h
    exact ex_int (by simp [Builtin.len_, ht, ha, run_underlying hu, goInt])
  · rename_i hu
    simp only [Rep] at r
    obtain ⟨a, cap, _, rfl, _⟩ := r
    simp only [Option.some.injEq] at h; subst h
    exact ex_int (by simp [Builtin.len_, ht, ha, run_underlying hu, goInt])
  · rename_i hu
    simp only [Option.some.injEq] at h; subst h
    exact ex_int (by simp [Builtin.len_, ht, ha, run_underlying hu, goInt])
  · rename_i hu
    simp only [Rep] at r
    subst r
    simp only [Option.some.injEq] at h; subst h
    exact ex_int (by simp [Builtin.len_, ht, ha, run_underlying hu, goInt])
  · rename_i a hu
    simp only [Rep] at r
    obtain ⟨B, hmu, rfl⟩ := r
    split at h
    · rename_i es clock hb
      simp only [Option.some.injEq] at h; subst h
      obtain ⟨B', hmu', _, hbe, rs, hh, he⟩ := hI.blk a _ hb
      rw [hmu] at hmu'
      simp only [Option.some.injEq] at hmu'
      subst hmu'
      refine ex_int ?_
      have hg : (getObj B).run P w = .ok (.map rs.toArray clock) w := by simp [getObj, Sem.run, hh]
      simp [Builtin.len_, ht, ha, run_underlying hu, goInt, hg, he.1]
    · cases h
  · cases h
theorem foldN_run (op : Builtin) (f : Value → Value → Sem Value) (hf : ∀ k j x y z, maxN op (.int k x) (.int j y) = some z → ∃ u, f (.int k x) (.int j y) = pure u ∧ Rep g z u) :
    ∀ (xs : List V) (vs : List Value) (x y : V) (v : Value), foldN op x xs = some y → Rep g x v → RepL g xs vs → ∀ w : World,
    ∃ u, (vs.foldlM f v).run P w = .ok u w ∧ Rep g y u
  | [], vs, x, y, v, h, r, rl, w => by
    rw [RepL.nil_iff] at rl
    subst rl
    simp only [foldN, Option.some.injEq] at h
    subst h
    exact ⟨v, by simp, r⟩
  | z :: xs, [], x, y, v, h, r, rl, w => by simp [RepL] at rl
  | z :: xs, u :: vs, x, y, v, h, r, rl, w => by
    rw [RepL.cons_iff] at rl
    simp only [foldN] at h
    split at h
    · rename_i q hq
      have hx : ∃ k a j b, x = .int k a ∧ z = .int j b := by
        cases x <;> cases z <;> simp [maxN] at hq
        exact ⟨_, _, _, _, rfl, rfl⟩
      obtain ⟨k, a, j, b, rfl, rfl⟩ := hx
      have := rep_int r; have := rep_int rl.1; subst_vars
      obtain ⟨u', hu', hr'⟩ := hf k j a b q hq
      obtain ⟨u2, h1, h2⟩ := foldN_run op f hf xs vs q y u' h hr' rl.2 w
      exact ⟨u2, by simp only [List.foldlM_cons, hu', pure_bind]; exact h1, h2⟩
    · cases h
theorem max2_ok (k j : IntKind) (x y : Int) (z : V) (h : maxN .max (.int k x) (.int j y) = some z) : ∃ u, Builtin.max2 (.int k x) (.int j y) = pure u ∧ Rep g z u := by
  simp only [maxN, Option.some.injEq] at h
  subst h
  exact ⟨_, rfl, Rep.int _ _⟩
theorem min2_ok (k j : IntKind) (x y : Int) (z : V) (h : maxN .min (.int k x) (.int j y) = some z) : ∃ u, Builtin.min2 (.int k x) (.int j y) = pure u ∧ Rep g z u := by
  simp only [maxN, Option.some.injEq] at h
  subst h
  exact ⟨_, rfl, Rep.int _ _⟩
def RepP (g : Gh) : List (Nat × V) → List (Nat × Value) → Prop
  | [], vs => vs = []
  | (i, x) :: xs, vs => ∃ v ws, vs = (i, v) :: ws ∧ Rep g x v ∧ RepP g xs ws
theorem put_rep (off : Nat) : ∀ (us : List V) (vs : List Value) (k : Nat) (cs : List V) (arr : Array Value), RepL g us vs → RepL g cs arr.toList →
    RepL g (writeL cs (off + k) us) ((vs.zipIdx k).foldl (fun (a : Array Value) (c, j) => a.setIfInBounds (off + j) c) arr).toList
  | [], vs, k, cs, arr, h, hc => by
    rw [RepL.nil_iff] at h
    subst h
    simpa [writeL] using hc
  | u :: us, [], k, cs, arr, h, hc => by simp [RepL] at h
  | u :: us, v :: vs, k, cs, arr, h, hc => by
    rw [RepL.cons_iff] at h
    simp only [List.zipIdx_cons, List.foldl_cons, writeL]
    exact put_rep off us vs (k + 1) _ _ h.2 (by simpa using hc.set h.1)
theorem fillL_run (place : Nat → Option (Nat × Nat)) : ∀ (parts : List (Nat × V)) (vs : List (Nat × Value)) (cs cs' : List V) (arr : Array Value), fillL place cs parts = some cs' → RepP g parts vs → RepL g cs arr.toList →
    (∀ c ∈ cs, V.one c = true) → ∃ arr', Instr.fill place arr vs = some arr' ∧ RepL g cs' arr'.toList ∧ (∀ c ∈ cs', V.one c = true) ∧ cs'.length = cs.length
  | [], vs, cs, cs', arr, h, hp, hc, h1 => by
    simp only [RepP] at hp
    subst hp
    simp only [fillL, Option.some.injEq] at h
    subst h
    exact ⟨arr, rfl, hc, h1, rfl⟩
  | (i, x) :: parts, vs, cs, cs', arr, h, hp, hc, h1 => by
    simp only [RepP] at hp
    obtain ⟨v, ws, rfl, hx, hp⟩ := hp
    simp only [fillL] at h
    split at h
    · rename_i off sz us hpl hus
      split at h
      · rename_i hl
        obtain ⟨r1, r2⟩ := cellsO_rep hus hx
        have hsz : v.cells.size = sz := by have := r1.length; simp at this; omega
        have hal : arr.size = cs.length := by have := hc.length; simp at this; omega
        have hput := put_rep (g := g) off us v.cells.toList 0 cs arr r1 hc
        have hone : ∀ c ∈ writeL cs off us, V.one c = true := by
          intro c hcm
          obtain ⟨j, hj⟩ := List.mem_iff_getElem?.1 hcm
          rw [writeL_get] at hj
          split at hj
          · exact r2 c (List.mem_of_getElem? hj)
          · exact h1 c (List.mem_of_getElem? hj)
        obtain ⟨arr', e1, e2, e3, e4⟩ := fillL_run place parts ws _ cs' _ h hp (by simpa using hput) hone
        refine ⟨arr', ?_, e2, e3, by rw [e4, writeL_length]⟩
        simp only [Instr.fill, hpl]
        rw [if_neg (by simp [hsz]; omega)]
        rw [← e1]
        congr 1
        rw [← Array.foldl_toList]
        simp
      · cases h
    · cases h
theorem buildV_run {t : TypeId} {parts : List (Nat × V)} {y : V} (h : buildV P t parts = some y) {vs : Array (Nat × Value)} (hp : RepP g parts vs.toList) (w : World) :
    ∃ u, (Instr.build t vs).run P w = .ok u w ∧ Rep g y u := by
  unfold buildV at h
  split at h
  · rename_i z fs hz hu
    obtain ⟨i, zv, hi, hzv, hr, h1, _⟩ := zeroCs_run hz g
    split at h
    · rename_i places hpl
      simp only [Option.map_eq_some_iff] at h
      obtain ⟨cs, hcs, rfl⟩ := h
      obtain ⟨arr, e1, e2, _, _⟩ := fillL_run _ parts vs.toList z cs zv.cells hcs hp hr h1
      refine ⟨.agg arr, run_build w t vs arr ?_, by simp only [Rep]; exact ⟨arr, rfl, e2⟩⟩
      simp only [placesO, hu] at hpl
      simp only [Program.built, hi, hu, hzv, hpl, e1]
    · cases h
  · rename_i z n e hz hu
    obtain ⟨i, zv, hi, hzv, hr, h1, _⟩ := zeroCs_run hz g
    split at h
    · rename_i sz hs
      simp only [Option.map_eq_some_iff] at h
      obtain ⟨cs, hcs, rfl⟩ := h
      obtain ⟨arr, e1, e2, _, _⟩ := fillL_run _ parts vs.toList z cs zv.cells hcs hp hr h1
      refine ⟨.agg arr, run_build w t vs arr ?_, by simp only [Rep]; exact ⟨arr, rfl, e2⟩⟩
      obtain ⟨ie, hie, rfl⟩ := info_of_szO hs
      simp only [Program.built, hi, hu, hzv, hie, e1]
    · cases h
  · cases h
theorem rep_flat {z : List V} {zv : Array Value} (hr : RepL g z zv.toList) (n : Nat) :
    RepL g (List.replicate n z).flatten (((Array.range (n * zv.size)).map (fun i => zv[i % zv.size]!)).toList) := by
  have hlen := hr.length
  simp at hlen
  rw [RepL.iff]
  constructor
  · simp [hlen]
  · intro i x hx
    have hz : 0 < zv.size := by
      cases hzs : zv.size with
      | zero =>
        have : z = [] := List.eq_nil_of_length_eq_zero (by omega)
        subst this
        have : (List.replicate n ([] : List V)).flatten = [] := by simp
        rw [this] at hx; simp at hx
      | succ k => omega
    have hi : i < n * zv.size := by
      have := (List.getElem?_eq_some_iff.1 hx).1
      simpa [hlen] using this
    have hmod : i % zv.size < z.length := by rw [hlen]; exact Nat.mod_lt _ hz
    have hxe : ∀ (n i : Nat), i < n * z.length → (List.replicate n z).flatten[i]? = z[i % z.length]? := by
      intro n
      induction n with
      | zero => intro i hi; omega
      | succ n ih =>
        intro i hi
        rw [List.replicate_succ, List.flatten_cons, List.getElem?_append]
        split
        · rename_i hl; rw [Nat.mod_eq_of_lt hl]
        · rename_i hl
          rw [ih _ (by rw [Nat.succ_mul] at hi; omega)]
          congr 1
          rw [Nat.mod_eq_sub_mod (by omega : z.length ≤ i)]
    rw [hxe n i (by rw [hlen]; exact hi), hlen] at hx
    obtain ⟨v, hv, hrv⟩ := hr.get hx
    refine ⟨v, ?_, hrv⟩
    have hlt : i % zv.size < zv.size := Nat.mod_lt _ hz
    have : zv[i % zv.size]! = v := by
      rw [getElem!_pos zv _ hlt]
      simpa [hlt] using hv
    simp [hi, this]
theorem flat_one {z : List V} (h : ∀ c ∈ z, V.one c = true) (n : Nat) : ∀ c ∈ (List.replicate n z).flatten, V.one c = true := by
  intro c hc
  simp only [List.mem_flatten, List.mem_replicate] at hc
  obtain ⟨l, ⟨_, rfl⟩, hc⟩ := hc
  exact h c hc
theorem buildSliceV_run {t : TypeId} {len : Nat} {parts : List (Nat × V)} {y : V} (h : buildSliceV P t len parts = some y) (hI : Inv g n0 H w) {vs : Array (Nat × Value)} (hp : RepP g parts vs.toList) :
    ∃ g' w' u, (Instr.buildSlice t len vs).run P w = .ok u w' ∧ Good n0 g w g' w' ∧ Inv g' n0 H w' ∧ Rep g' y u := by
  unfold buildSliceV at h
  split at h
  · rename_i e he
    split at h
    · rename_i sz z hs hz
      split at h
      · rename_i hle
        simp only [Option.map_eq_some_iff] at h
        obtain ⟨cs, hcs, rfl⟩ := h
        obtain ⟨i, zv, hi, hzv, hr, h1, hzl, hzs⟩ := zeroCs_run hz g
        obtain ⟨i', hi', rfl⟩ := info_of_szO hs
        rw [hi] at hi'
        simp only [Option.some.injEq] at hi'
        subst hi'
        have hfl := rep_flat hr len
        obtain ⟨arr, e1, e2, e3, e4⟩ := fillL_run _ parts vs.toList _ cs _ hcs hp hfl (flat_one h1 len)
        have hu := run_underlying_slice he
        have hlen : arr.toList.take cs.length = arr.toList := List.take_of_length_le (by rw [e2.length]; exact Nat.le_refl _)
        obtain ⟨g', k1, k2, k3, _⟩ := hI.newRow arr e cs (by rw [hlen]; exact e2) e3
        refine ⟨g', _, .slice (some ⟨w.heap.size, 0, none⟩) len len, ?_, k2, k1, ?_⟩
        · rw [hzs] at e1
          have hsm : ¬ (len * i.size > 2 ^ 24) := by have : (65536 : Nat) ≤ 2 ^ 24 := by decide
                                                     omega
          simp only [Instr.buildSlice, Sem.run_bind, run_underlying hu, Result.andThen_ok, run_szO hs]
          rw [if_neg hsm]
          by_cases h0 : len * i.size = 0
          · have e0 : ∀ f : Nat → Value, (Array.range 0).map f = #[] := fun f => by simp
            rw [h0, e0] at e1
            simp only [h0, if_true, Sem.run_bind, Sem.run_pure, Result.andThen_ok, e0, e1, newRow, run_newObj_alloc]
          · simp only [h0, if_false, Sem.run_bind, Sem.run_pure, run_zeroValue hi hzv, Result.andThen_ok, hzs, e1, newRow, run_newObj_alloc]
        · simp only [Rep]
          refine ⟨_, _, rfl, Nat.le_refl _, by simp, by simp, by simp, by simp, ?_⟩
          intro A hA
          simp only [Option.some.injEq] at hA
          subst hA
          exact ⟨fun _ => rfl, k3, by simp⟩
      · cases h
    · cases h
  · cases h
theorem append_grow {ts : Array TypeId} {t0 t1 e : TypeId} {d : TypeDesc} {i : TypeInfo} {zv : Value} (h0 : ts[0]? = some t0) (h1 : ts[1]? = some t1) (hu : P.underlying t0 = some (.slice e))
    (hd : P.underlying t1 = some d) (hni : ∀ k, d ≠ .int k) (hi : P.info? e = some i) (hz : i.zero = some zv) {a : Option Addr} {n cap m : Nat} {vx : Value} {cs' new' : List Value} (ty : TypeId)
    (hlx : (Builtin.lenOf vx).run P w = .ok m w) (hold : ∀ w : World, True) (hfs : (Builtin.firstCells i.size n (.slice a n cap)).run P w.drew = .ok cs'.toArray w.drew)
    (hfx : (Builtin.firstCells i.size m vx).run P w.drew = .ok new'.toArray w.drew) (hneed : cap < n + m) (hsm : smallRow (n + m) i.bytes = true) :
    (Builtin.append_ ts ty #[.slice a n cap, vx]).run P w = .ok (.slice (some ⟨w.heap.size, 0, none⟩) (n + m) (grownCap w (n + m) cap e))
      (w.drew.alloc (.cells (cs'.toArray ++ new'.toArray ++ Builtin.zeroCells zv.cells (grownCap w (n + m) cap e - (n + m))) e)) := by
  simp only [smallRow, Bool.and_eq_true, decide_eq_true_eq] at hsm
  have hbytes : (n + m) * i.bytes ≤ 140737488355328 := by
    have := Nat.mul_le_mul hsm.1 hsm.2
    omega
  have hg := growslice_fits (bytes := i.bytes) hneed hbytes
  have hk : ∀ k, d = .int k → False := fun k hk => hni k hk
  have hzeros : (match d with | .int _ => true | _ => false) = false := by cases d <;> first | rfl | exact absurd rfl (hni _)
  unfold Builtin.append_
  simp only [h0, h1, List.getElem?_toArray, List.getElem?_cons_zero, List.getElem?_cons_succ, Sem.run_bind, run_underlying hu, run_underlying hd, Result.andThen_ok, sizeOf, run_typeInfo hi, Sem.run_pure, hzeros]
  simp only [Bool.false_eq_true, if_false, hlx, Result.andThen_ok, Sem.run_bind]
  rw [if_neg (by omega)]
  simp only [Sem.run_bind, run_typeInfo hi, Result.andThen_ok, Sem.run_pure, Bool.not_false, if_true]
  rw [if_neg (by rw [IntKind.max_i64]; omega)]
  simp only [Sem.run_bind, run_typeInfo hi, Result.andThen_ok]
  rw [if_neg (by have : (2 : Nat) ^ 48 = 281474976710656 := by decide
                 omega)]
  simp only [Sem.run_bind, run_choose_drew, Question.forced, Bool.false_eq_true, if_false, Result.andThen_ok, run_typeInfo hi, run_askRoom, hfs, hfx, run_zeroValue hi hz, newRow, run_newObj_alloc, Sem.run_pure, grownCap]
  rfl
theorem append_fits {ts : Array TypeId} {t0 t1 e : TypeId} {d : TypeDesc} {i : TypeInfo} (h0 : ts[0]? = some t0) (h1 : ts[1]? = some t1) (hu : P.underlying t0 = some (.slice e))
    (hd : P.underlying t1 = some d) (hni : ∀ k, d ≠ .int k) (hi : P.info? e = some i) {a : Option Addr} {n cap m : Nat} {vx : Value} {new' : List Value} (ty : TypeId) {w w' : World}
    (hlx : (Builtin.lenOf vx).run P w = .ok m w) (hfx : (Builtin.firstCells i.size m vx).run P w = .ok new'.toArray w) (hneed : n + m ≤ cap)
    (hst : (match a with | some A => (storeCells (A.add (n * i.size)) new').run P w | none => .ok () w) = .ok () w') :
    (Builtin.append_ ts ty #[.slice a n cap, vx]).run P w = .ok (.slice a (n + m) cap) w' := by
  have hzeros : (match d with | .int _ => true | _ => false) = false := by cases d <;> first | rfl | exact absurd rfl (hni _)
  unfold Builtin.append_
  simp only [h0, h1, List.getElem?_toArray, List.getElem?_cons_zero, List.getElem?_cons_succ, Sem.run_bind, run_underlying hu, run_underlying hd, Result.andThen_ok, sizeOf, run_typeInfo hi, Sem.run_pure, hzeros]
  simp only [Bool.false_eq_true, if_false, hlx, Result.andThen_ok, Sem.run_bind]
  rw [if_pos hneed]
  simp only [Sem.run_bind, run_typeInfo hi, Result.andThen_ok, Sem.run_pure, Bool.not_false, if_true, hfx]
  cases a with
  | none =>
    simp only [Result.ok.injEq, true_and] at hst
    subst hst
    simp
  | some A =>
    simp only [Sem.run_bind]
    simp only at hst
    rw [hst]
    rfl
theorem size_zeroC (z : Array Value) (n : Nat) : (Builtin.zeroCells z n).size = n * z.size := by simp [Builtin.zeroCells]
theorem loadFrom_drew (a : Addr) : ∀ (n i : Nat) (acc r : Array Value), (loadCellsFrom a i n acc).run P w = .ok r w → (loadCellsFrom a i n acc).run P w.drew = .ok r w.drew
  | 0, i, acc, r, h => by simp only [loadCellsFrom, Sem.run_pure, Result.ok.injEq, and_true] at h ⊢; exact h
  | n + 1, i, acc, r, h => by
    simp only [loadCellsFrom, Sem.run_bind, run_load, World.cell?_drew] at h ⊢
    cases hc : w.cell? (a.add i) with
    | some v => simp only [hc, Result.andThen_ok] at h ⊢; exact loadFrom_drew a n (i + 1) _ r h
    | none =>
      have hf : w.drew.farLoad P (a.add i) (Mode.plain == .atomic) = w.farLoad P (a.add i) (Mode.plain == .atomic) := rfl
      simp only [hc, hf] at h ⊢
      cases hx : w.farLoad P (a.add i) (Mode.plain == .atomic) with
      | ok p => simp only [hx, Result.andThen_ok] at h ⊢; exact loadFrom_drew a n (i + 1) _ r h
      | error e => simp [hx, Result.andThen] at h
theorem firstCells_drew {size n : Nat} {v : Value} {r : Array Value} (h : (Builtin.firstCells size n v).run P w = .ok r w) : (Builtin.firstCells size n v).run P w.drew = .ok r w.drew := by
  unfold Builtin.firstCells at h ⊢
  split at h
  · exact loadFrom_drew _ _ _ _ _ h
  · simp only [Sem.run_pure, Result.ok.injEq, and_true] at h ⊢; exact h
  · simp only [Sem.run_pure, Result.ok.injEq, and_true] at h ⊢; exact h
  · simp at h
theorem Inv.newOwn (hI : Inv g n0 H w) {e : TypeId} {cs : List V} {vs rest : List Value} (hr : RepL g cs vs) (hone : ∀ c ∈ cs, V.one c = true) (sz m : Nat) (hrest : rest.length = m * sz) (n : Nat) :
    ∃ g', Inv g' n0 { H with ts := H.ts ++ [some sz] } (w.alloc (.cells (vs ++ rest).toArray e)) ∧ Good n0 g w g' (w.alloc (.cells (vs ++ rest).toArray e)) ∧
      Rep g' (.row false false cs n (some H.ts.length)) (.slice (some ⟨w.heap.size, 0, none⟩) n (n + m)) := by
  have hl := hr.length
  have htake : (vs ++ rest).toArray.toList.take cs.length = vs := by rw [hl]; simp
  obtain ⟨g1, k1, k2, k3, k4, k5⟩ := hI.newRow (vs ++ rest).toArray e cs (by rw [htake]; exact hr) hone
  let t : TokI := ⟨w.heap.size, cs.length, m, sz⟩
  obtain ⟨q1, q2⟩ := k1.newTok t none (by show g1.be w.heap.size = none; rw [k4]; exact hI.fresh _ (Nat.le_refl _)) (by
    refine ⟨rfl, hI.base, by simp [Gh.addT, t], k5, (vs ++ rest).toArray, e, (0, 0), World.alloc_heap_new _ _, ?_, fun i _ _ => by simp⟩
    simp only [List.size_toArray, List.length_append, hrest]
    show cs.length + m * sz ≤ _
    omega)
  refine ⟨g1.addT H.ts.length t, q1, k2.trans q2, ?_⟩
  simp only [Rep]
  refine ⟨_, _, rfl, Nat.le_add_right _ _, by simp, by simp, by simp, by simp, ?_⟩
  intro A hA
  simp only [Option.some.injEq] at hA
  subst hA
  refine ⟨fun _ => rfl, RepC.mono q2.le _ _ _ k3, fun k hk => ?_⟩
  simp only [Option.some.injEq] at hk
  subst hk
  exact ⟨t, by simp [Gh.addT], .inr ⟨rfl, rfl, by simp [t], rfl⟩⟩
theorem Inv.newOwn' (hI : Inv g n0 H w) {e : TypeId} {cs new : List V} {vs vs' : List Value} {z : Array Value} (hr : RepL g cs vs) (hr' : RepL g new vs') (hone : ∀ c ∈ cs, V.one c = true) (hone' : ∀ c ∈ new, V.one c = true) (m n : Nat) :
    ∃ g', Inv g' n0 { H with ts := H.ts ++ [some z.size] } (w.drew.alloc (.cells (vs.toArray ++ vs'.toArray ++ Builtin.zeroCells z m) e)) ∧
      Good n0 g w g' (w.drew.alloc (.cells (vs.toArray ++ vs'.toArray ++ Builtin.zeroCells z m) e)) ∧
      Rep g' (.row false false (cs ++ new) n (some H.ts.length)) (.slice (some ⟨w.heap.size, 0, none⟩) n (n + m)) := by
  have e1 : vs.toArray ++ vs'.toArray ++ Builtin.zeroCells z m = ((vs ++ vs') ++ (Builtin.zeroCells z m).toList).toArray := by simp
  rw [e1]
  obtain ⟨g', k1, k2, k3⟩ := hI.drew.newOwn (e := e) (hr.append hr') (fun c hc => (List.mem_append.1 hc).elim (hone c) (hone' c)) z.size m (by simp [size_zeroC]) n (rest := (Builtin.zeroCells z m).toList)
  exact ⟨g', k1, (Good.drew n0 g w).trans k2, k3⟩
theorem Inv.newGrown (hI : Inv g n0 H w) {e : TypeId} {cs new : List V} {vs vs' : List Value} {z : Array Value} (hr : RepL g cs vs) (hr' : RepL g new vs') (hone : ∀ c ∈ cs, V.one c = true) (hone' : ∀ c ∈ new, V.one c = true) (m n : Nat)
    (hn : cs.length + new.length = n * z.size) :
    ∃ g', Inv g' n0 (newB H (.cells (cs ++ new))) (w.drew.alloc (.cells (vs.toArray ++ vs'.toArray ++ Builtin.zeroCells z m) e)) ∧
      Good n0 g w g' (w.drew.alloc (.cells (vs.toArray ++ vs'.toArray ++ Builtin.zeroCells z m) e)) ∧
      Rep g' (.slice H.bs.length 0 n z.size) (.slice (some ⟨w.heap.size, 0, none⟩) n (n + m)) := by
  have e1 : vs.toArray ++ vs'.toArray ++ Builtin.zeroCells z m = ((vs ++ vs') ++ (Builtin.zeroCells z m).toList).toArray := by simp
  rw [e1]
  have hI1 := hI.drew
  have hle : g.le (g.addB H.bs.length w.heap.size ((n + m) * z.size)) := Gh.addB_le (hI.new _ (Nat.le_refl _))
  have hl := hr.length
  have hl' := hr'.length
  have hsz : (((vs ++ vs') ++ (Builtin.zeroCells z m).toList).toArray).size = (n + m) * z.size := by
    simp [size_zeroC, Nat.add_mul]; omega
  have hnm : n * z.size ≤ (n + m) * z.size := Nat.mul_le_mul_right _ (by omega)
  obtain ⟨k1, k2, k3⟩ := hI1.newBlk (.cells ((vs ++ vs') ++ (Builtin.zeroCells z m).toList).toArray e) (.cells (cs ++ new)) ((n + m) * z.size) (by
    refine ⟨by simp [Gh.addB], fun o => hI1.noG (Nat.le_refl _) o, _, e, (0, 0), World.alloc_heap_new _ _, by rw [hsz]; simp; omega, fun i x hx => ?_, fun i _ => by simp,
      by simp [Gh.addB]; omega, by rw [hsz]; simp [Gh.addB], fun i _ => by simp⟩
    obtain ⟨v, hv, hrv⟩ := (hr.append hr').get hx
    refine ⟨(List.mem_append.1 (List.mem_of_getElem? hx)).elim (hone x) (hone' x), v, ?_, hrv.mono hle⟩
    have hi : i < (vs ++ vs').length := (List.getElem?_eq_some_iff.1 hv).1
    simp only [List.getElem?_toArray]
    rw [List.getElem?_append_left hi]
    exact hv)
  refine ⟨_, k1, (Good.drew n0 g w).trans k2, ?_⟩
  simp only [Rep]
  exact ⟨_, _, k3, rfl, by omega, by simp [Gh.addB]⟩
theorem appendEB_run {ts : Array TypeId} {t0 t1 e : TypeId} {d : TypeDesc} (h0 : ts[0]? = some t0) (h1 : ts[1]? = some t1) (hu : P.underlying t0 = some (.slice e))
    (hd : P.underlying t1 = some d) (hni : ∀ k, d ≠ .int k) {s x y : V} {H' : Heap} (h : appendEB P H e s x = some (y, H')) (hI : Inv g n0 H w) {vs vx : Value} (rs : Rep g s vs) (rx : Rep g x vx) (ty : TypeId) :
    ∃ g' w' u, (Builtin.append_ ts ty #[vs, vx]).run P w = .ok u w' ∧ Good n0 g w g' w' ∧ Inv g' n0 H' w' ∧ Rep g' y u := by
  unfold appendEB at h
  split at h
  · rename_i i z hi hz
    obtain ⟨i2, zv, hi2, hzv, hr, hz1, hzl, hzs⟩ := zeroCs_run hz g
    rw [hi] at hi2
    simp only [Option.some.injEq] at hi2
    subst hi2
    split at h
    · rename_i new m hnew hm
      obtain ⟨new', n1, n2, m', n3, n4, n5, n6⟩ := sliceCells_rep (P := P) hnew hI rx
      rw [hm] at n6
      simp only [Option.some.injEq] at n6
      subst n6
      have n5d : (Builtin.firstCells i.size m vx).run P w.drew = .ok new'.toArray w.drew := firstCells_drew n5
      have none0 : new.length = m * i.size → m = 0 → ∀ (a : Option Addr) (n cap : Nat), vs = .slice a n cap → n ≤ cap → (Builtin.append_ ts ty #[vs, vx]).run P w = .ok vs w := by
        intro c4 hm0 a n cap hvs hc
        subst hm0 hvs
        have hn0 : new' = [] := List.eq_nil_of_length_eq_zero (by rw [← n1.length, c4]; simp)
        subst hn0
        exact append_fits h0 h1 hu hd hni hi ty n3 n5 (by omega) (by cases a <;> simp [storeCells])
      split at h
      · rename_i nl fl cs n tok
        split at h
        · rename_i hc
          obtain ⟨c1, c2, c3, c4⟩ := hc
          have rs0 := rs
          simp only [Rep] at rs
          obtain ⟨a, cap, rfl, r1, r2, r3, r4, r5, r6⟩ := rs
          split at h
          · rename_i hm0
            simp only [Option.some.injEq, Prod.mk.injEq] at h
            obtain ⟨rfl, rfl⟩ := h
            exact ⟨g, w, _, none0 c4 hm0 _ _ _ rfl r1, Good.refl _ _ _, hI, rs0⟩
          · rename_i hm0
            split at h
            · rename_i hnf
              simp only [Option.some.injEq, Prod.mk.injEq] at h
              obtain ⟨rfl, rfl⟩ := h
              have hcap : cap = n := by
                simp only [Bool.or_eq_true] at hnf
                rcases hnf with hx | hx
                · have := (r3 hx).2; omega
                · exact r2 hx
              obtain ⟨cs', o1, o2, n', o3, o4, o5, o6⟩ := sliceCells_rep (P := P) (size := i.size) (x := .row nl fl cs n tok) (cs := cs) (by simp [sliceCells, c1]) hI rs0
              simp only [lenO, Option.some.injEq] at o6
              subst o6
              have o5d : (Builtin.firstCells i.size n (.slice a n cap)).run P w.drew = .ok cs'.toArray w.drew := firstCells_drew o5
              obtain ⟨g', k1, k2, k3⟩ := hI.newGrown (e := e) (z := zv.cells) o1 n1 o2 n2 (grownCap w (n + m) cap e - (n + m)) (n + m) (by rw [hzs, c1, c4, Nat.add_mul])
              have hcap := grownCap_ge w (n + m) cap e
              refine ⟨g', _, _, append_grow h0 h1 hu hd hni hi hzv ty n3 (fun _ => trivial) o5d n5d (by omega) c3, k2, k1, ?_⟩
              rw [show n + m + (grownCap w (n + m) cap e - (n + m)) = grownCap w (n + m) cap e by omega, hzs] at k3
              exact k3
            · cases h
        · cases h
      · rename_i a off n sz
        split at h
        · rename_i cs ha
          split at h
          · rename_i hc
            obtain ⟨rfl, rfl, c1, c2, c3, c4⟩ := hc
            have rs0 := rs
            simp only [Rep] at rs
            obtain ⟨B, cap, hmu, rfl, r1, r2⟩ := rs
            split at h
            · rename_i hm0
              simp only [Option.some.injEq, Prod.mk.injEq] at h
              obtain ⟨rfl, rfl⟩ := h
              exact ⟨g, w, _, none0 c4 hm0 _ _ _ rfl r1, Good.refl _ _ _, hI, rs0⟩
            · rename_i hm0
              simp only [Option.some.injEq, Prod.mk.injEq] at h
              obtain ⟨rfl, rfl⟩ := h
              have halt : a < H.bs.length := (List.getElem?_eq_some_iff.1 ha).1
              by_cases hneed : n + m ≤ cap
              · obtain ⟨B', hmu', hn, hbe, hG, arr, e', fz, hh, hsz, hcs, hf, hcp1, hcp2, hcp3⟩ := hI.blk a _ ha
                rw [hmu] at hmu'
                simp only [Option.some.injEq] at hmu'
                subst hmu'
                have hnl : new'.length = m * i.size := by rw [← n1.length, c4]
                have hmul : (n + m) * i.size ≤ cap * i.size := Nat.mul_le_mul_right _ hneed
                rw [Nat.add_mul] at hmul
                obtain ⟨w', arr', e1, e2, e3, e4, e5⟩ := storeCells_run (P := P) B (n * i.size) e' fz new' 0 arr w hh (by omega) (fun j hj => hcp3 _ (by omega)) (fun c hcm => by
                  obtain ⟨j, hj⟩ := List.mem_iff_getElem?.1 hcm
                  have hlt : j < new.length := by rw [n1.length]; exact (List.getElem?_eq_some_iff.1 hj).1
                  obtain ⟨z', hz', hrz⟩ := n1.get (i := j) (x := new[j]) (by simp [hlt])
                  rw [hj] at hz'
                  simp only [Option.some.injEq] at hz'
                  subst hz'
                  exact one_rep (n2 _ (List.getElem_mem hlt)) hrz)
                simp only [Nat.add_zero] at e5
                have hle : g.le (g.addB H.bs.length B (g.cp a)) := Gh.addB_le (hI.new _ (Nat.le_refl _))
                obtain ⟨k1, k2⟩ := hI.moveBlk (.cells (cs ++ new)) halt hmu hn hbe hG e2 (by
                  refine ⟨by simp [Gh.addB], hG, arr', e', fz, e3, by rw [e4]; simp only [List.length_append]; omega, fun j x hx => ?_, fun j hj => hcp3 j (by simp only [List.length_append] at hj; omega),
                    by simp [Gh.addB]; omega, by rw [e4]; simpa [Gh.addB] using hcp2, by simpa [Gh.addB] using hcp3⟩
                  rw [e5]
                  rw [List.getElem?_append] at hx
                  split at hx
                  · rename_i hj
                    obtain ⟨p, v, q, r⟩ := hcs j x hx
                    exact ⟨p, v, by rw [if_neg (by omega)]; exact q, r.mono hle⟩
                  · rename_i hj
                    have hj2 : j - cs.length < new.length := (List.getElem?_eq_some_iff.1 hx).1
                    obtain ⟨v, hv, hrv⟩ := n1.get hx
                    refine ⟨n2 x (List.mem_of_getElem? hx), v, ?_, hrv.mono hle⟩
                    rw [if_pos (by omega), ← c1]
                    exact hv)
                refine ⟨_, w', .slice (some ⟨B, 0, none⟩) (n + m) cap, ?_, k2, k1, ?_⟩
                · refine append_fits h0 h1 hu hd hni hi ty n3 n5 hneed ?_
                  simp only [add_none, Nat.zero_add]
                  exact e1
                · simp only [Rep]
                  exact ⟨B, cap, by simp [Gh.addB], rfl, hneed, by simpa [Gh.addB] using r2⟩
              · obtain ⟨cs', o1, o2, n', o3, o4, o5, o6⟩ := sliceCells_rep (P := P) (size := i.size) (x := .slice a 0 n i.size) (cs := cs) (by simp [sliceCells, ha, ← c1]) hI rs0
                simp only [lenO, Option.some.injEq] at o6
                subst o6
                have o5d : (Builtin.firstCells i.size n (.slice (some ⟨B, 0, none⟩) n cap)).run P w.drew = .ok cs'.toArray w.drew := firstCells_drew o5
                obtain ⟨g', k1, k2, k3⟩ := (hI.killBlk a (by obtain ⟨B9, e9, f9, _⟩ := hI.blk a _ ha; exact ⟨B9, e9, f9⟩)).newGrown (e := e) (z := zv.cells) o1 n1 o2 n2 (grownCap w (n + m) cap e - (n + m)) (n + m) (by rw [hzs, c1, c4, Nat.add_mul])
                have hcap := grownCap_ge w (n + m) cap e
                refine ⟨g', _, _, append_grow h0 h1 hu hd hni hi hzv ty n3 (fun _ => trivial) o5d n5d (by omega) c3, k2, k1, ?_⟩
                rw [show n + m + (grownCap w (n + m) cap e - (n + m)) = grownCap w (n + m) cap e by omega, hzs] at k3
                simpa using k3
          · cases h
        · cases h
      · cases h
    · cases h
  · cases h
theorem appendV_run {ts : Array TypeId} {s x y : V} {H' : Heap} {blk : Bool} (h : appendV P H blk ts s x = some (y, H')) (hI : Inv g n0 H w) {vs vx : Value} (rs : Rep g s vs) (rx : Rep g x vx) (ty : TypeId) :
    ∃ g' w' u, (Builtin.append_ ts ty #[vs, vx]).run P w = .ok u w' ∧ Good n0 g w g' w' ∧ Inv g' n0 H' w' ∧ Rep g' y u := by
  unfold appendV at h
  split at h
  · rename_i t0 t1 h0 h1
    split at h
    · rename_i e d he hd
      split at h
      · cases h
      rename_i hnd
      have hni : ∀ k, d ≠ .int k := by
        intro k hk
        subst hk
        exact hnd rfl
      split at h
      · exact appendEB_run h0 h1 (run_underlying_slice he) hd hni h hI rs rx ty
      have h2 := h
      clear h
      have rx := closeV_rep rx
      generalize closeV x = x at h2 rx
      unfold appendE at h2
      split at h2
      · rename_i i z hi hz
        obtain ⟨i2, zv, hi2, hzv, hr, hz1, hzl, hzs⟩ := zeroCs_run hz g
        rw [hi] at hi2
        simp only [Option.some.injEq] at hi2
        subst hi2
        have hu := run_underlying_slice he
        split at h2
        · rename_i new m hnew hm
          obtain ⟨new', n1, n2, m', n3, n4, n5, n6⟩ := sliceCells_rep (P := P) hnew hI rx
          rw [hm] at n6
          simp only [Option.some.injEq] at n6
          subst n6
          split at h2
          · rename_i nl fl cs n tok
            split at h2
            · rename_i hc
              obtain ⟨c1, c2, c3, c4⟩ := hc
              have rs0 := rs
              simp only [Rep] at rs
              obtain ⟨a, cap, rfl, r1, r2, r3, r4, r5, r6⟩ := rs
              split at h2
              · rename_i hm0
                subst hm0
                simp only [Option.some.injEq, Prod.mk.injEq] at h2
                obtain ⟨rfl, rfl⟩ := h2
                have hn0 : new' = [] := List.eq_nil_of_length_eq_zero (by rw [← n1.length, c4]; simp)
                subst hn0
                refine ⟨g, w, _, append_fits h0 h1 hu hd hni hi ty n3 n5 (by omega) (by cases a <;> simp [storeCells]), Good.refl _ _ _, hI, rs0⟩
              · rename_i hm0
                obtain ⟨cs', o1, o2, n', o3, o4, o5, o6⟩ := sliceCells_rep (P := P) (size := i.size) (x := .row nl fl cs n tok) (cs := cs) (by simp [sliceCells, c1]) hI rs0
                simp only [lenO, Option.some.injEq] at o6
                subst o6
                have o5d : (Builtin.firstCells i.size n (.slice a n cap)).run P w.drew = .ok cs'.toArray w.drew := firstCells_drew o5
                have n5d : (Builtin.firstCells i.size m vx).run P w.drew = .ok new'.toArray w.drew := firstCells_drew n5
                have grow : cap < n + m → ∀ ts0, Inv g n0 { H with ts := ts0 } w → ∃ g' w' u, (Builtin.append_ ts ty #[.slice a n cap, vx]).run P w = .ok u w' ∧ Good n0 g w g' w' ∧
                    Inv g' n0 { H with ts := ts0 ++ [some i.size] } w' ∧ Rep g' (.row false false (cs ++ new) (n + m) (some ts0.length)) u := by
                  intro hneed ts0 hI0
                  obtain ⟨g', k1, k2, k3⟩ := hI0.newOwn' (e := e) (z := zv.cells) o1 n1 o2 n2 (grownCap w (n + m) cap e - (n + m)) (n + m)
                  have hcap := grownCap_ge w (n + m) cap e
                  refine ⟨g', _, _, append_grow h0 h1 hu hd hni hi hzv ty n3 (fun _ => trivial) o5d n5d hneed c3, k2, by rw [hzs] at k1; exact k1, ?_⟩
                  rw [show n + m + (grownCap w (n + m) cap e - (n + m)) = grownCap w (n + m) cap e by omega] at k3
                  exact k3
                split at h2
                · rename_i k
                  split at h2
                  · rename_i sz hk
                    split at h2
                    · rename_i hsz
                      simp only [Option.some.injEq, Prod.mk.injEq] at h2
                      obtain ⟨rfl, rfl⟩ := h2
                      by_cases hneed : n + m ≤ cap
                      · cases a with
                        | none => have := (r5 rfl).2.1; cases this
                        | some A =>
                          obtain ⟨s1, s2, s3⟩ := r6 A rfl
                          obtain ⟨B, o, sp⟩ := A
                          simp only at s1 s2 s3
                          obtain ⟨t, t1, t234⟩ := s3 k rfl
                          obtain ⟨t', t1', hrel⟩ := hI.tok k sz hk
                          have hsp0 : sp = none ∧ t.B = B ∧ t.e = o + cs.length ∧ cap = n + t.m := by
                            rcases t234 with hz | h
                            · exfalso
                              rw [t1] at t1'
                              simp only [Option.some.injEq] at t1'
                              subst t1'
                              have := hrel.1
                              omega
                            · exact h
                          obtain ⟨s1, t2, t3, t4⟩ := hsp0
                          subst s1
                          rw [t1] at t1'
                          simp only [Option.some.injEq] at t1'
                          subst t1'
                          have hrel0 := hrel
                          obtain ⟨b1, b2, b3, b4, arr, e', fz, b5, b6, b7⟩ := hrel
                          subst hsz
                          have hnl : new'.length = m * i.size := by rw [← n1.length, c4]
                          have hmul : m * i.size ≤ t.m * i.size := Nat.mul_le_mul_right _ (by omega)
                          rw [t2] at b5
                          obtain ⟨w', arr', e1, e2, e3, e4, e5⟩ := storeCells_run (P := P) B t.e e' fz new' 0 arr w b5 (by omega) (fun j hj => b7 _ (by omega) (by omega)) (fun c hcm => by
                            obtain ⟨j, hj⟩ := List.mem_iff_getElem?.1 hcm
                            have hlt : j < new.length := by rw [n1.length]; exact (List.getElem?_eq_some_iff.1 hj).1
                            obtain ⟨z', hz', hrz⟩ := n1.get (i := j) (x := new[j]) (by simp [hlt])
                            rw [hj] at hz'
                            simp only [Option.some.injEq] at hz'
                            subst hz'
                            exact one_rep (n2 _ (List.getElem_mem hlt)) hrz)
                          simp only [Nat.add_zero] at e5
                          have hte : t.e = o + n * i.size := by rw [t3, c1]
                          have e2' : But t.B w w' := by rw [t2]; exact e2
                          have e3' : w'.heap[t.B]? = some (.cells arr' e' fz) := by rw [t2]; exact e3
                          obtain ⟨q1, q2⟩ := hI.growRow hk t1 hrel0 arr' e' fz e2' e3' new'.length (fun oo hoo => by
                            rw [e5, if_neg (by omega), t2, cell_of_heap b5])
                          generalize hg1 : g.addG t.B (fun o => if o < t.e then g.G t.B o else if o < t.e + new'.length then arr'[o]? else none) = g1 at q1 q2
                          have hbe1 : g1.be = g.be := by rw [← hg1]; rfl
                          let t'' : TokI := ⟨B, t.e + new'.length, t.m - m, i.size⟩
                          have hsub : (t.m - m) * i.size = t.m * i.size - m * i.size := Nat.sub_mul _ _ _
                          obtain ⟨p1, p2⟩ := q1.newTok t'' (some k) (by show g1.be B = _; rw [hbe1, ← t2]; exact b3) (by
                            refine ⟨rfl, by show n0 ≤ B; rw [← t2]; exact b2, by simp [Gh.addT, t''], fun oo hoo => ?_, arr', e', fz, e3, ?_, fun ii hi1 hi2 => ?_⟩
                            · show g1.G B oo = none
                              have hoo' : t.e + new'.length ≤ oo := hoo
                              rw [← hg1]
                              simp only [Gh.addG, t2, if_true]
                              rw [if_neg (by omega), if_neg (by omega)]
                            · show t.e + new'.length + (t.m - m) * i.size ≤ _
                              rw [e4, hsub]; omega
                            · have hi1' : t.e + new'.length ≤ ii := hi1
                              exact b7 ii (by omega) (by omega))
                          refine ⟨g1.addT H.ts.length t'', w', .slice (some ⟨B, o, none⟩) (n + m) cap, ?_, q2.trans (by simpa using p2), ?_, ?_⟩
                          · refine append_fits h0 h1 hu hd hni hi ty n3 n5 hneed ?_
                            simp only [add_none, ← hte]
                            exact e1
                          · have := p1
                            simp only [dropTok, List.set_set, List.length_set] at this
                            exact this
                          · have hle2 : g.le (g1.addT H.ts.length t'') := by
                              have := q2.le.trans p2.le
                              simpa using this
                            simp only [Rep]
                            refine ⟨_, _, rfl, by omega, by simp, by simp, by simp, by simp, ?_⟩
                            intro A hA
                            simp only [Option.some.injEq] at hA
                            subst hA
                            refine ⟨fun _ => rfl, RepC.append (RepC.mono hle2 _ _ _ s2) ?_, fun k' hk' => ?_⟩
                            · rw [RepC.iff]
                              intro j y hy
                              obtain ⟨v, hv, hrv⟩ := n1.get hy
                              have hjl : j < new'.length := (List.getElem?_eq_some_iff.1 hv).1
                              refine ⟨v, ?_, hrv.mono hle2, n2 y (List.mem_of_getElem? hy)⟩
                              show g1.G B _ = _
                              rw [← hg1]
                              simp only [Gh.addG, t2, if_true]
                              rw [if_neg (by omega), if_pos (by omega), e5, if_pos (by omega)]
                              rw [show o + cs.length + j - t.e = j by omega]
                              exact hv
                            · simp only [Option.some.injEq] at hk'
                              subst hk'
                              refine ⟨t'', by simp [Gh.addT], .inr ⟨rfl, rfl, ?_, ?_⟩⟩
                              · show t.e + new'.length = _
                                simp only [List.length_append]
                                rw [t3, n1.length]
                                omega
                              · show cap = n + m + (t.m - m)
                                omega
                      · obtain ⟨g', w', u, a1, a2, a3, a4⟩ := grow (by omega) _ (hI.killTok k)
                        exact ⟨g', w', u, a1, a2, a3, by simpa using a4⟩
                    · cases h2
                  · cases h2
                · split at h2
                  · rename_i hnf
                    simp only [Option.some.injEq, Prod.mk.injEq] at h2
                    obtain ⟨rfl, rfl⟩ := h2
                    have hcap : cap = n := by
                      simp only [Bool.or_eq_true] at hnf
                      rcases hnf with hx | hx
                      · have := (r3 hx).2; omega
                      · exact r2 hx
                    exact grow (by omega) H.ts hI
                  · cases h2
            · cases h2
          · cases h2
        · cases h2
      · cases h2
    · cases h
  · cases h
end Go.Ab
namespace Go.Ab
open Go.RowKit (Below)
variable {P : Program} {g : Gh} {n0 : Nat} {H : Heap} {w : World}
def plain1 : V → Bool
 | .bool _ | .int _ _ | .str _ => true
 | _ => false
def plainK : V → Bool
 | .agg xs => xs.all plain1
 | x => plain1 x
theorem plain1_det {x : V} (h : plain1 x = true) {v u : Value} (r : Rep g x v) (r' : Rep g x u) : v = u := by
 cases x <;> simp [plain1] at h <;> simp only [Rep] at r r' <;> rw [r, r']
theorem plainL_det : ∀ {xs : List V} (h : xs.all plain1 = true) {vs us : List Value} (r : RepL g xs vs) (r' : RepL g xs us), vs = us
 | [], h, vs, us, r, r' => by rw [RepL.nil_iff] at r r'; rw [r, r']
 | x :: xs, h, [], us, r, r' => by simp [RepL] at r
 | x :: xs, h, v :: vs, [], r, r' => by simp [RepL] at r'
 | x :: xs, h, v :: vs, u :: us, r, r' => by
  rw [RepL.cons_iff] at r r'
  simp only [List.all_cons, Bool.and_eq_true] at h
  rw [plain1_det h.1 r.1 r'.1, plainL_det h.2 r.2 r'.2]
theorem plainK_det {x : V} (h : plainK x = true) {v u : Value} (r : Rep g x v) (r' : Rep g x u) : v = u := by
 cases x with
 | agg xs =>
  simp only [Rep] at r r'
  obtain ⟨vs, rfl, r⟩ := r
  obtain ⟨us, rfl, r'⟩ := r'
  have := plainL_det h r r'
  rw [Array.toList_inj.1 this]
 | bool b => exact plain1_det (x := .bool b) rfl r r'
 | int k n => exact plain1_det (x := .int k n) rfl r r'
 | str s => exact plain1_det (x := .str s) rfl r r'
 | _ => simp [plainK, plain1] at h
theorem eqCell_true {t : TypeId} {x y : V} (h : eqCell P t x y = some true) : x = y ∧ plain1 x = true := by
 unfold eqCell at h
 split at h
 ·simp only [Option.some.injEq, beq_iff_eq] at h; subst h; exact ⟨rfl, rfl⟩
 ·split at h
  ·rename_i hk
   simp only [Option.some.injEq, beq_iff_eq] at h; subst h; subst hk; exact ⟨rfl, rfl⟩
  ·cases h
 ·simp only [Option.some.injEq, beq_iff_eq] at h; subst h; exact ⟨rfl, rfl⟩
 ·cases h
theorem eqElems_true {e : TypeId} : ∀ {xs ys : List V}, eqElems P e xs ys = some true → xs = ys ∧ xs.all plain1 = true
 | [], [], h => ⟨rfl, rfl⟩
 | x :: xs, y :: ys, h => by
  simp only [eqElems] at h
  split at h
  ·rename_i he
   obtain ⟨rfl, h1⟩ := eqCell_true he
   obtain ⟨rfl, h2⟩ := eqElems_true h
   exact ⟨rfl, by simp [h1, h2]⟩
  ·cases h
  ·cases h
 | [], _ :: _, h => by simp [eqElems] at h
 | _ :: _, [], h => by simp [eqElems] at h
theorem eqKey_true {t : TypeId} {x y : V} (h : eqKey P t x y = some true) : x = y ∧ plainK x = true := by
 unfold eqKey at h
 split at h
 ·simp only [Option.some.injEq, beq_iff_eq] at h; subst h; exact ⟨rfl, rfl⟩
 ·split at h
  ·rename_i hk
   simp only [Option.some.injEq, beq_iff_eq] at h; subst h; subst hk; exact ⟨rfl, rfl⟩
  ·cases h
 ·simp only [Option.some.injEq, beq_iff_eq] at h; subst h; exact ⟨rfl, rfl⟩
 ·split at h
  ·obtain ⟨rfl, h2⟩ := eqElems_true h
   exact ⟨rfl, h2⟩
  ·cases h
 ·cases h
theorem eqKey_run {t : TypeId} {x y : V} {b : Bool} (h : eqKey P t x y = some b) {v u : Value} (rx : Rep g x v) (ry : Rep g y u) (w : World) :
  ∃ d, P.underlying t = some d ∧ (Instr.sameNow d v u = some b ∨ (Instr.sameNow d v u = none ∧ (Op.equal t v u).run P w = .ok b w)) ∧
   ((∃ n e, d = .array n e) ↔ Instr.sameNow d v u = none) := by
 unfold eqKey at h
 split at h
 ·rename_i hu
  have := rep_bool rx; have := rep_bool ry; subst_vars
  simp only [Option.some.injEq] at h
  exact ⟨_, hu, .inl (by simp [Instr.sameNow, h]), by simp [Instr.sameNow]⟩
 ·rename_i hu
  have := rep_int rx; have := rep_int ry; subst_vars
  split at h
  ·rename_i hk
   simp only [Option.some.injEq] at h
   exact ⟨_, hu, .inl (by simp [Instr.sameNow, h, hk]), by simp [Instr.sameNow, hk]⟩
  ·cases h
 ·rename_i hu
  have := rep_str rx; have := rep_str ry; subst_vars
  simp only [Option.some.injEq] at h
  refine ⟨_, hu, .inl ?_, by simp [Instr.sameNow]⟩
  simp only [Instr.sameNow, beq_toListBytes, ByteArray.toList_mk, h]
 ·rename_i n e xs ys hu
  split at h
  ·rename_i hc
   simp only [Rep] at rx ry
   obtain ⟨vs, rfl, rx⟩ := rx
   obtain ⟨us, rfl, ry⟩ := ry
   refine ⟨_, hu, .inr ⟨rfl, run_equalIn_arr (D := 9999) (by decide) t _ _ hu hc.1 hc.2.1 hc.2.2.1 hc.2.2.2 rx ry h w⟩, by simp [Instr.sameNow]⟩
  ·cases h
 ·cases h
theorem RepE.tail {k v : V} {b : Nat} {es : List (V × V × Nat)} {r : MapEntry} {rs : List MapEntry} (h : RepE g ((k, v, b) :: es) (r :: rs)) :
  Rep g k r.key ∧ Rep g v r.val ∧ r.born = b ∧ RepE g es rs := by
 obtain ⟨h1, h2⟩ := h
 obtain ⟨r', e1, e2, e3, e4⟩ := h2 0 (k, v, b) (by simp)
 simp only [List.getElem?_cons_zero, Option.some.injEq] at e1
 subst e1
 exact ⟨e2, e3, e4, by simpa using h1, fun i x hx => by simpa using h2 (i + 1) x (by simpa using hx)⟩
theorem findK_at {kt : TypeId} {k : V} : ∀ {es : List (V × V × Nat)} {i : Nat} {v : V} {b : Nat}, findK P kt k es = some (some (i, v, b)) → es[i]? = some (k, v, b) ∧ plainK k = true
 | [], i, v, b, h => by simp [findK] at h
 | (k', v', b') :: es, i, v, b, h => by
  simp only [findK] at h
  split at h
  ·rename_i he
   simp only [Option.some.injEq, Prod.mk.injEq] at h
   obtain ⟨rfl, rfl, rfl⟩ := h
   obtain ⟨rfl, hp⟩ := eqKey_true he
   exact ⟨by simp, hp⟩
  ·split at h
   ·rename_i i' v'' b'' hr
    simp only [Option.some.injEq, Prod.mk.injEq] at h
    obtain ⟨rfl, rfl, rfl⟩ := h
    have := findK_at hr
    exact ⟨by simpa using this.1, this.2⟩
   ·rename_i hne
    rw [h] at hne
    exact absurd rfl (hne i v b)
  ·cases h
def FoundAs (r : Option (Nat × V × Nat)) (rs : List MapEntry) (j : Nat) (q : Option (Nat × Value)) : Prop :=
 match r with
 | none => q = none
 | some (i, _, _) => ∃ e, rs[i]? = some e ∧ q = some (j + i, e.val)
theorem findNow_run {kt : TypeId} {k : V} {kv : Value} (rk : Rep g k kv) {d : TypeDesc} (hd : P.underlying kt = some d) (hna : ¬ ∃ n e, d = .array n e) :
  ∀ (es : List (V × V × Nat)) (rs : List MapEntry) (j : Nat) (r : Option (Nat × V × Nat)), findK P kt k es = some r → RepE g es rs → ∃ q, Instr.findNow d kv rs j = some q ∧ FoundAs r rs j q
 | [], [], j, r, h, he => by
  simp only [findK, Option.some.injEq] at h
  subst h
  exact ⟨none, rfl, rfl⟩
 | [], _ :: _, j, r, h, he => by have := he.1; simp at this
 | _ :: _, [], j, r, h, he => by have := he.1; simp at this
 | (k', v', b') :: es, e :: rs, j, r, h, he => by
  obtain ⟨h1, h2, h3, h4⟩ := he.tail
  simp only [findK] at h
  split at h
  ·rename_i hk
   simp only [Option.some.injEq] at h
   subst h
   obtain ⟨d', hd', hs, ha⟩ := eqKey_run hk rk h1 default
   rw [hd] at hd'
   simp only [Option.some.injEq] at hd'
   subst hd'
   rcases hs with hs | hs
   ·exact ⟨some (j, e.val), by simp [Instr.findNow, hs], ⟨e, by simp, by simp⟩⟩
   ·exact absurd (ha.2 hs.1) hna
  ·rename_i hk
   obtain ⟨d', hd', hs, ha⟩ := eqKey_run hk rk h1 default
   rw [hd] at hd'
   simp only [Option.some.injEq] at hd'
   subst hd'
   rcases hs with hs | hs
   ·have key : ∃ r0, findK P kt k es = some r0 ∧ r = r0.map fun x => (x.1 + 1, x.2.1, x.2.2) := by
     split at h
     ·rename_i i v b hr
      simp only [Option.some.injEq] at h
      exact ⟨_, hr, by simp [← h]⟩
     ·rename_i hne
      cases r with
      | none => exact ⟨none, h, rfl⟩
      | some x => exact absurd h (hne x.1 x.2.1 x.2.2)
    obtain ⟨r0, hr0, rfl⟩ := key
    obtain ⟨q, hq, hf⟩ := findNow_run rk hd hna es rs (j + 1) r0 hr0 h4
    refine ⟨q, by simp [Instr.findNow, hs, hq], ?_⟩
    cases r0 with
    | none => exact hf
    | some x =>
     obtain ⟨e', e1, e2⟩ := hf
     exact ⟨e', by simpa using e1, by rw [e2]; simp; omega⟩
   ·exact absurd (ha.2 hs.1) hna
  ·cases h
theorem findAsking_run {kt : TypeId} {k : V} {kv : Value} (rk : Rep g k kv) {n : Nat} {e : TypeId} (hd : P.underlying kt = some (.array n e)) (w : World) :
  ∀ (es : List (V × V × Nat)) (rs : List MapEntry) (j : Nat) (r : Option (Nat × V × Nat)), findK P kt k es = some r → RepE g es rs → ∃ q, (Instr.findAsking kt kv rs j).run P w = .ok q w ∧ FoundAs r rs j q
 | [], [], j, r, h, he => by
  simp only [findK, Option.some.injEq] at h
  subst h
  exact ⟨none, rfl, rfl⟩
 | [], _ :: _, j, r, h, he => by have := he.1; simp at this
 | _ :: _, [], j, r, h, he => by have := he.1; simp at this
 | (k', v', b') :: es, en :: rs, j, r, h, he => by
  obtain ⟨h1, h2, h3, h4⟩ := he.tail
  simp only [findK] at h
  split at h
  ·rename_i hk
   simp only [Option.some.injEq] at h
   subst h
   obtain ⟨d', hd', hs, ha⟩ := eqKey_run hk rk h1 w
   rw [hd] at hd'
   simp only [Option.some.injEq] at hd'
   subst hd'
   have hno := ha.1 ⟨_, _, rfl⟩
   rcases hs with hs | hs
   ·rw [hno] at hs; cases hs
   ·exact ⟨some (j, en.val), by simp [Instr.findAsking, hs.2], ⟨en, by simp, by simp⟩⟩
  ·rename_i hk
   obtain ⟨d', hd', hs, ha⟩ := eqKey_run hk rk h1 w
   rw [hd] at hd'
   simp only [Option.some.injEq] at hd'
   subst hd'
   have hno := ha.1 ⟨_, _, rfl⟩
   rcases hs with hs | hs
   ·rw [hno] at hs; cases hs
   ·have key : ∃ r0, findK P kt k es = some r0 ∧ r = r0.map fun x => (x.1 + 1, x.2.1, x.2.2) := by
     split at h
     ·rename_i i v b hr
      simp only [Option.some.injEq] at h
      exact ⟨_, hr, by simp [← h]⟩
     ·rename_i hne
      cases r with
      | none => exact ⟨none, h, rfl⟩
      | some x => exact absurd h (hne x.1 x.2.1 x.2.2)
    obtain ⟨r0, hr0, rfl⟩ := key
    obtain ⟨q, hq, hf⟩ := findAsking_run rk hd w es rs (j + 1) r0 hr0 h4
    refine ⟨q, by simp [Instr.findAsking, hs.2, hq], ?_⟩
    cases r0 with
    | none => exact hf
    | some x =>
     obtain ⟨e', e1, e2⟩ := hf
     exact ⟨e', by simpa using e1, by rw [e2]; simp; omega⟩
  ·cases h
theorem findKey_run {kt : TypeId} {k : V} {kv : Value} (rk : Rep g k kv) (hk : keyOk P kt k = true) {es : List (V × V × Nat)} {rs : List MapEntry} {r : Option (Nat × V × Nat)}
  (h : findK P kt k es = some r) (he : RepE g es rs) (w : World) : ∃ q, (Instr.findKey kt kv rs).run P w = .ok q w ∧ FoundAs r rs 0 q := by
 cases hu : P.underlying kt with
 | none => simp [keyOk, hu] at hk
 | some d =>
  by_cases ha : ∃ n e, d = .array n e
  ·obtain ⟨n, e, rfl⟩ := ha
   obtain ⟨q, h1, h2⟩ := findAsking_run rk hu w es rs 0 r h he
   cases rs with
   | nil =>
    cases es with
    | cons x l => have := he.1; simp at this
    | nil =>
     simp only [findK, Option.some.injEq] at h
     subst h
     exact ⟨none, by simp [Instr.findKey, run_underlying hu, Instr.findNow], rfl⟩
   | cons en rs =>
    refine ⟨q, ?_, h2⟩
    have hn : Instr.findNow (.array n e) kv (en :: rs) 0 = none := by
     cases es with
     | nil => have := he.1; simp at this
     | cons x l =>
      obtain ⟨k', v', b'⟩ := x
      obtain ⟨h1', _⟩ := he.tail
      simp only [findK] at h
      have hs : Instr.sameNow (.array n e) kv en.key = none := rfl
      simp [Instr.findNow, hs]
    simp [Instr.findKey, run_underlying hu, hn, h1]
  ·obtain ⟨q, h1, h2⟩ := findNow_run rk hu ha es rs 0 r h he
   exact ⟨q, by simp [Instr.findKey, run_underlying hu, h1], h2⟩
theorem checkKey_elem {e : TypeId} {d : TypeDesc} (hd : P.underlying e = some d) (hb : (match d with | .bool | .int _ | .string => true | _ => false) = true) (em : Bool) {D : Nat} (hD : 0 < D) (v : Value) (w : World) :
  (Instr.checkKey em D e v).run P w = .ok () w := by
 obtain ⟨D', rfl⟩ : ∃ D', D = D' + 1 := ⟨D - 1, by omega⟩
 cases d <;> simp at hb <;> simp [Instr.checkKey, run_underlying hd]
theorem checkKey_run {kt : TypeId} {k : V} {kv : Value} (rk : Rep g k kv) (hk : keyOk P kt k = true) (em : Bool) (w : World) : (Instr.checkKey em 10000 kt kv).run P w = .ok () w := by
 show (Instr.checkKey em (9999 + 1) kt kv).run P w = .ok () w
 generalize hD : 9999 = D
 have hD0 : 0 < D := by omega
 clear hD
 unfold keyOk at hk
 split at hk
 ·rename_i hu; simp [Instr.checkKey, run_underlying hu]
 ·rename_i hu; simp [Instr.checkKey, run_underlying hu]
 ·rename_i hu; simp [Instr.checkKey, run_underlying hu]
 ·rename_i n e xs hu
  simp only [Bool.and_eq_true, beq_iff_eq] at hk
  obtain ⟨⟨⟨h1, h2⟩, h3⟩, h4⟩ := hk
  simp only [Rep] at rk
  obtain ⟨vs, rfl, rk⟩ := rk
  have hlen := rk.length
  simp at hlen
  cases hue : P.underlying e with
  | none => simp [hue] at h1
  | some d =>
   have ha : isAggO P e = some false := by
    simp only [hue] at h1
    unfold isAggO
    rw [hue]
    cases d <;> simp at h1 <;> rfl
   have hb : (match d with | .bool | .int _ | .string => true | _ => false) = true := by
    simp only [hue] at h1
    cases d <;> simp at h1 <;> rfl
   have loop : ∀ (m s : Nat) , s + m = xs.length → Sem.run P (forIn (List.range' s m) PUnit.unit fun i (_ : PUnit) => do
      let z ← sizeOf e
      let a ← part e vs (i * z)
      Instr.checkKey em D e a
      pure (ForInStep.yield PUnit.unit)) w = .ok PUnit.unit w := by
    intro m
    induction m with
    | zero => intro s hs; simp
    | succ m ih =>
     intro s hs
     obtain ⟨v, hv⟩ : ∃ v, vs[s]? = some v := ⟨vs[s]'(by omega), by simp [show s < vs.size by omega]⟩
     have p1 := part_one (P := P) ha hv w
     simp only [List.range'_succ, List.forIn_cons, Sem.run_bind, run_szO h4, Result.andThen_ok, Nat.mul_one, p1, checkKey_elem hue hb em hD0, Sem.run_pure]
     exact ih (s + 1) (by omega)
   simp only [Instr.checkKey, Sem.run_bind, run_underlying hu, Result.andThen_ok, Std.Legacy.Range.forIn_eq_forIn_range']
   have hsz : ({ start := 0, stop := n, step := 1, step_pos := by decide } : Std.Legacy.Range).size = n := by simp [Std.Legacy.Range.size]
   rw [hsz]
   rw [loop n 0 (by omega)]
   rfl
 ·cases hk
theorem ofVal_list (g : Gh) : ∀ l : List Value, RepL g (l.map ofVal) l
 | [] => RepL.nil g
 | x :: l => by rw [List.map_cons, RepL.cons_iff]; exact ⟨ofVal_rep g x, ofVal_list g l⟩
theorem zeroV_run {t : TypeId} {z : V} (h : zeroV P t = some z) (g : Gh) (w : World) : ∃ v, (zeroValue t).run P w = .ok v w ∧ Rep g z v ∧ z.cellsO.isSome = true := by
 unfold zeroV at h
 cases hi : P.info? t with
 | none => simp [hi] at h
 | some i =>
  simp only [hi] at h
  cases hz : i.zero with
  | none => simp [hz] at h
  | some v =>
   simp only [hz] at h
   refine ⟨v, run_zeroValue hi hz w, ?_⟩
   unfold ofValZ at h
   split at h
   ·split at h
    ·rename_i cs hall
     simp only [Option.some.injEq] at h
     subst h
     exact ⟨by simp only [Rep]; exact ⟨_, rfl, ofVal_list g _⟩, by simp [V.cellsO, hall]⟩
    ·cases h
   ·split at h
    ·rename_i hone
     simp only [Option.some.injEq] at h
     subst h
     refine ⟨ofVal_rep g v, ?_⟩
     cases hv : ofVal v <;> simp_all [V.one, V.cellsO]
    ·cases h
theorem lookupV_run {t : TypeId} {m k y : V} {ok : Bool} (h : lookupV P H t m k ok = some y) (hI : Inv g n0 H w) {vm vk : Value} (rm : Rep g m vm) (rk : Rep g k vk) :
  ∃ u, (Instr.lookup t vm vk ok).run P w = .ok u w ∧ Rep g y u := by
 unfold lookupV at h
 split at h
 ·rename_i kt et hu
  split at h
  ·cases h
  ·rename_i hk
   simp only [Bool.not_eq_true', Bool.not_eq_false] at hk
   have found : ∀ (rs : List MapEntry) (r : Option (Nat × V × Nat)) (es : List (V × V × Nat)) (q : Option (Nat × Value)), RepE g es rs → findK P kt k es = some r → FoundAs r rs 0 q →
     (match (some r : Option (Option (Nat × V × Nat))) with
      | some (some (_, v, _)) => some (if ok then .tuple [v, .bool true] else v)
      | some none => (zeroV P et).map fun z => if ok then .tuple [z, .bool false] else z
      | none => none : Option V) = some y →
     ∃ u, (do
      let (v, o) ← match q with
       | some (_, v) => pure (v, true)
       | none => pure (← zeroValue et, false)
      pure (if ok then .tuple #[v, .bool o] else v) : Sem Value).run P w = .ok u w ∧ Rep g y u := by
    intro rs r es q he hf hq hy
    cases r with
    | some x =>
     obtain ⟨i, v, b⟩ := x
     obtain ⟨e, e1, rfl⟩ := hq
     obtain ⟨hat, _⟩ := findK_at hf
     obtain ⟨e', e1', e2, e3, e4⟩ := he.2 i _ hat
     rw [e1] at e1'
     simp only [Option.some.injEq] at e1'
     subst e1'
     simp only [Option.some.injEq] at hy
     subst hy
     cases ok with
     | true =>
      refine ⟨.tuple #[e.val, .bool true], by simp, ?_⟩
      simp only [Rep, if_true]
      exact ⟨_, rfl, RepL.cons e3 (RepL.cons (Rep.bool true) (RepL.nil g))⟩
     | false => exact ⟨e.val, by simp, e3⟩
    | none =>
     simp only [FoundAs] at hq
     subst hq
     simp only [Option.map_eq_some_iff] at hy
     obtain ⟨z, hz, rfl⟩ := hy
     obtain ⟨v, v1, v2, _⟩ := zeroV_run hz g w
     cases ok with
     | true =>
      refine ⟨.tuple #[v, .bool false], by simp [v1], ?_⟩
      simp only [Rep, if_true]
      exact ⟨_, rfl, RepL.cons v2 (RepL.cons (Rep.bool false) (RepL.nil g))⟩
     | false => exact ⟨v, by simp [v1], v2⟩
   cases m with
   | nilmap =>
    simp only at h
    simp only [Rep] at rm
    subst rm
    obtain ⟨u, h1, h2⟩ := found [] none [] none ⟨rfl, by simp⟩ rfl rfl h
    obtain ⟨q, hq, hf⟩ := findKey_run (es := []) (rs := []) rk hk rfl ⟨rfl, by simp⟩ w
    simp only [FoundAs] at hf
    subst hf
    refine ⟨u, ?_, h2⟩
    simp only [Instr.lookup, Sem.run_bind, run_underlying hu, Result.andThen_ok, Sem.run_pure, checkKey_run rk hk, hq]
    simpa using h1
   | map a =>
    simp only at h
    cases hb : H.bs[a]? with
    | none => simp [hb] at h
    | some bl =>
     cases bl with
     | map es clock =>
      simp only [hb] at h
      cases hfk : findK P kt k es with
      | none => simp [hfk] at h
      | some r =>
       rw [hfk] at h
       obtain ⟨B, hmu, _, hbe, rs, hh, he⟩ := hI.blk a _ hb
       simp only [Rep] at rm
       obtain ⟨B', hmu', rfl⟩ := rm
       rw [hmu] at hmu'
       simp only [Option.some.injEq] at hmu'
       subst hmu'
       obtain ⟨q, hq, hf⟩ := findKey_run rk hk hfk he w
       obtain ⟨u, h1, h2⟩ := found rs r es q he hfk hf h
       refine ⟨u, ?_, h2⟩
       have hg : (getObj B).run P w = .ok (.map rs.toArray clock) w := by simp [getObj, Sem.run, hh]
       simp only [Instr.lookup, Sem.run_bind, run_underlying hu, Result.andThen_ok, hg, Sem.run_pure, checkKey_run rk hk, hq]
       clear hq hf found
       cases q <;> simpa using h1
     | _ => simp [hb] at h
   | _ => simp at h
 ·cases h
theorem RepE.set {es : List (V × V × Nat)} {rs : List MapEntry} (h : RepE g es rs) {i b : Nat} {k v : V} {r : MapEntry} (h1 : Rep g k r.key) (h2 : Rep g v r.val) (h3 : r.born = b) :
  RepE g (es.set i (k, v, b)) (rs.set i r) := by
 refine ⟨by simp [h.1], fun j x hx => ?_⟩
 rw [List.getElem?_set] at hx ⊢
 split at hx
 ·rename_i e
  subst e
  split at hx
  ·rename_i hl
   simp only [Option.some.injEq] at hx
   subst hx
   exact ⟨r, by simp [← h.1, hl], h1, h2, h3⟩
  ·cases hx
 ·rename_i e
  rw [if_neg e]
  exact h.2 j x hx
theorem RepE.push {es : List (V × V × Nat)} {rs : List MapEntry} (h : RepE g es rs) {b : Nat} {k v : V} {r : MapEntry} (h1 : Rep g k r.key) (h2 : Rep g v r.val) (h3 : r.born = b) :
  RepE g (es ++ [(k, v, b)]) (rs ++ [r]) := by
 refine ⟨by simp [h.1], fun j x hx => ?_⟩
 rw [List.getElem?_append] at hx ⊢
 rw [← h.1]
 split at hx
 ·rename_i hl; rw [if_pos hl]; exact h.2 j x hx
 ·rename_i hl
  rw [if_neg hl]
  cases hj : j - es.length with
  | zero => simp [hj] at hx; subst hx; exact ⟨r, by simp, h1, h2, h3⟩
  | succ n => simp [hj] at hx
theorem sameBits_plain {x : V} (h : plain1 x = true) {v : Value} (r : Rep g x v) (n : Nat) : Instr.sameBits n v v = true := by
 cases x <;> simp [plain1] at h <;> simp only [Rep] at r <;> subst r <;> cases n <;> simp [Instr.sameBits, beq_toListBytes]
theorem sameBits_key {x : V} (h : plainK x = true) {v : Value} (r : Rep g x v) : Instr.sameBits 10000 v v = true := by
 cases x with
 | agg xs =>
  simp only [Rep] at r
  obtain ⟨vs, rfl, r⟩ := r
  show Instr.sameBits (9999 + 1) _ _ = true
  simp only [Instr.sameBits, beq_self_eq_true, Bool.true_and]
  have : ∀ (xs : List V) (l : List Value), xs.all plain1 = true → RepL g xs l → (l.zip l).all (fun (x, y) => Instr.sameBits 9999 x y) = true := by
   intro xs
   induction xs with
   | nil => intro l _ r; rw [RepL.nil_iff] at r; subst r; rfl
   | cons x xs ih =>
    intro l ha r
    cases l with
    | nil => simp [RepL] at r
    | cons v l =>
     rw [RepL.cons_iff] at r
     simp only [List.all_cons, Bool.and_eq_true] at ha
     simp only [List.zip_cons_cons, List.all_cons, Bool.and_eq_true]
     exact ⟨sameBits_plain ha.1 r.1 9999, ih l ha.2 r.2⟩
  exact this xs _ h r
 | bool b => exact sameBits_plain (x := .bool b) rfl r _
 | int k n => exact sameBits_plain (x := .int k n) rfl r _
 | str s => exact sameBits_plain (x := .str s) rfl r _
 | _ => simp [plainK, plain1] at h
theorem modify_eq {rs : List MapEntry} {i : Nat} {e : MapEntry} (h : rs[i]? = some e) (f : MapEntry → MapEntry) : (rs.toArray.modify i f) = (rs.set i (f e)).toArray := by
 have hl := (List.getElem?_eq_some_iff.1 h).1
 have he := (List.getElem?_eq_some_iff.1 h).2
 apply Array.toList_inj.1
 apply List.ext_getElem?
 intro j
 simp only [Array.toList_modify, List.getElem?_modify, List.getElem?_set]
 by_cases hj : i = j
 ·subst hj; simp [hl, he]
 ·simp [hj]
theorem mapUpdV_run {t : TypeId} {m k x : V} {H' : Heap} (h : mapUpdV P H t m k x = some H') (hI : Inv g n0 H w) {vm vk vx : Value} (rm : Rep g m vm) (rk : Rep g k vk) (rx : Rep g x vx) :
  ∃ w', (Instr.mapUpdate t vm vk vx).run P w = .ok () w' ∧ Good n0 g w g w' ∧ Inv g n0 H' w' := by
 unfold mapUpdV at h
 split at h
 ·rename_i kt et hu
  split at h
  ·cases h
  ·rename_i hc
   simp only [Bool.or_eq_true, not_or, Bool.not_eq_true', Bool.not_eq_false, Bool.not_eq_true] at hc
   split at h
   ·rename_i a
    split at h
    ·rename_i es clock hb
     obtain ⟨B, hmu, hn, hbe, rs, hh, he⟩ := hI.blk a _ hb
     simp only [Rep] at rm
     obtain ⟨B', hmu', rfl⟩ := rm
     rw [hmu] at hmu'
     simp only [Option.some.injEq] at hmu'
     subst hmu'
     have hlt : a < H.bs.length := (List.getElem?_eq_some_iff.1 hb).1
     have hBl : B < w.heap.size := hI.own_lt hbe
     have hg : (getObj B).run P w = .ok (.map rs.toArray clock) w := by simp [getObj, Sem.run, hh]
     have hset : ∀ o, (setObj B o).run P w = .ok () (w.putObj B o) := fun o => by simp [setObj, Sem.run, hh, World.putObj]
     have hG : ∀ o, g.G B o = none := fun o => by
      cases hgo : g.G B o with
      | none => rfl
      | some v => have := hI.agree B o v hgo; simp [World.cell?, hh] at this
     have fin : ∀ (es' : List (V × V × Nat)) (rs' : List MapEntry) (clock' : Nat), RepE g es' rs' → Good n0 g w g (w.putObj B (.map rs'.toArray clock')) ∧ Inv g n0 { H with bs := H.bs.set a (.map es' clock') } (w.putObj B (.map rs'.toArray clock')) := by
      intro es' rs' clock' he'
      have := hI.updBlk (.map es' clock') hlt hmu hn hbe hG (But.putObj w B (.map rs'.toArray clock')) ⟨hbe, rs', World.putObj_heap_same hBl, he'⟩
      exact ⟨this.2, this.1⟩
     split at h
     ·rename_i i v b hf
      simp only [Option.some.injEq] at h
      subst h
      obtain ⟨q, hq, e, e1, rfl⟩ := findKey_run rk hc.1 hf he w
      obtain ⟨hat, hpk⟩ := findK_at hf
      obtain ⟨e', e1', e2, e3, e4⟩ := he.2 i _ hat
      rw [e1] at e1'
      simp only [Option.some.injEq] at e1'
      subst e1'
      have hkey : e.key = vk := plainK_det hpk e2 rk
      have := fin _ _ clock (he.set (i := i) (r := { e with key := vk, val := vx }) rk rx e4)
      refine ⟨_, ?_, this⟩
      have hkeep : (Instr.keyThatStays e.key vk).run P w = .ok vk w := by
       rw [hkey]
       simp [Instr.keyThatStays, sameBits_key hpk rk]
      have hgi : (Option.map (fun x => x.key) rs.toArray[i]?).getD vk = e.key := by simp [e1]
      simp only [Instr.mapUpdate, Sem.run_bind, run_underlying hu, Result.andThen_ok, hg, checkKey_run rk hc.1, hq, Nat.zero_add, hgi, hkeep, hset]
      rw [modify_eq e1]
     ·rename_i hf
      simp only [Option.some.injEq] at h
      subst h
      obtain ⟨q, hq, hf2⟩ := findKey_run rk hc.1 hf he w
      simp only [FoundAs] at hf2
      subst hf2
      have := fin _ _ (clock + 1) (he.push (r := { key := vk, val := vx, born := clock }) rk rx rfl)
      refine ⟨_, ?_, this⟩
      simp only [Instr.mapUpdate, Sem.run_bind, run_underlying hu, Result.andThen_ok, hg, checkKey_run rk hc.1, hq, hset]
      simp
     ·cases h
    ·cases h
   ·cases h
 ·cases h
theorem RepE.find {g : Gh} : ∀ {es : List (V × V × Nat)} {rs : List MapEntry}, RepE g es rs → ∀ (p : Nat → Bool) (e : V × V × Nat), es.find? (fun e => p e.2.2) = some e →
  ∃ r, rs.find? (fun r => p r.born) = some r ∧ Rep g e.1 r.key ∧ Rep g e.2.1 r.val ∧ r.born = e.2.2
 | [], rs, _, p, e, h => by simp at h
 | x :: es, [], hr, p, e, h => by have := hr.1; simp at this
 | x :: es, r :: rs, hr, p, e, h => by
  obtain ⟨r', h1, h2, h3, h4⟩ := hr.2 0 x rfl
  simp only [List.getElem?_cons_zero, Option.some.injEq] at h1
  subst h1
  have ht : RepE g es rs := ⟨by have := hr.1; simpa using this, fun i y hy => hr.2 (i + 1) y hy⟩
  rw [List.find?_cons] at h ⊢
  rw [h4]
  cases hp : p x.2.2 with
  | true =>
   simp only [hp, Option.some.injEq] at h ⊢
   subst h
   exact ⟨r, rfl, h2, h3, h4⟩
  | false =>
   simp only [hp] at h ⊢
   exact ht.find p e h
theorem rangeV_run {t : TypeId} {x y : V} {H' : Heap} (h : rangeV P H t x = some (y, H')) (hI : Inv g n0 H w) {v : Value} (rx : Rep g x v) :
  ∃ g' w' u, (Instr.range t v).run P w = .ok u w' ∧ Good n0 g w g' w' ∧ Inv g' n0 H' w' ∧ Rep g' y u := by
 unfold rangeV at h
 split at h
 ·rename_i kt et hu
  split at h
  ·simp only [Option.some.injEq, Prod.mk.injEq] at h
   obtain ⟨rfl, rfl⟩ := h
   simp only [Rep] at rx
   subst rx
   obtain ⟨k1, k2, k3⟩ := hI.newBlk (.mapIter none 0 #[] 0) (.iter none 0 [] 0) 0 ⟨by simp [Gh.addB], none, World.alloc_heap_new _ _, rfl⟩
   exact ⟨_, _, .pointer (some ⟨w.heap.size, 0, none⟩), by simp [Instr.range, run_underlying hu], k2, k1, by simp only [Rep]; exact ⟨_, k3, rfl⟩⟩
  ·rename_i a
   split at h
   ·rename_i es clock hb
    simp only [Option.some.injEq, Prod.mk.injEq] at h
    obtain ⟨rfl, rfl⟩ := h
    obtain ⟨B, hmu, hn, hbe, rs, hh, he⟩ := hI.blk a _ hb
    simp only [Rep] at rx
    obtain ⟨B', hmu', rfl⟩ := rx
    rw [hmu] at hmu'
    simp only [Option.some.injEq] at hmu'
    subst hmu'
    have hg : (getObj B).run P w = .ok (.map rs.toArray clock) w := by simp [getObj, Sem.run, hh]
    have hne : a ≠ H.bs.length := fun e => by have := (List.getElem?_eq_some_iff.1 hb).1; omega
    obtain ⟨k1, k2, k3⟩ := hI.newBlk (.mapIter (some B) clock #[] clock) (.iter (some a) clock [] clock) 0 ⟨by simp [Gh.addB], some B, World.alloc_heap_new _ _, B, by simp [Gh.addB, hne, hmu], rfl⟩
    exact ⟨_, _, .pointer (some ⟨w.heap.size, 0, none⟩), by simp [Instr.range, run_underlying hu, hg], k2, k1, by simp only [Rep]; exact ⟨_, k3, rfl⟩⟩
   ·cases h
  ·cases h
 ·cases h
theorem entryV_run {x y : V} (h : entryV H x = some y) (hI : Inv g n0 H w) {v : Value} (rx : Rep g x v) :
  ∃ u, (Instr.entry v).run P w = .ok u w ∧ Rep g y u := by
 unfold entryV at h
 split at h
 ·rename_i i
  split at h
  ·rename_i a since seen last hb
   split at h
   ·rename_i st es clock hst hbm
    split at h
    ·rename_i hcl
     subst hcl
     simp only [Option.map_eq_some_iff] at h
     obtain ⟨e, hf, rfl⟩ := h
     obtain ⟨B, hmu, hn, hbe, M, hh, b, hmb, rfl⟩ := hI.blk i _ hb
     obtain ⟨B2, hmu2, hn2, hbe2, rs, hh2, he⟩ := hI.blk a _ hbm
     rw [hmu2] at hmb
     simp only [Option.some.injEq] at hmb
     subst hmb
     simp only [Rep] at rx
     obtain ⟨B', hmu', rfl⟩ := rx
     rw [hmu] at hmu'
     simp only [Option.some.injEq] at hmu'
     subst hmu'
     obtain ⟨r, r1, r2, r3, r4⟩ := he.find (fun n => n == st) e hf
     have hg1 : (getObj B).run P w = .ok (.mapIter (some B2) since seen.toArray clock) w := by simp [getObj, Sem.run, hh]
     have hg2 : (getObj B2).run P w = .ok (.map rs.toArray clock) w := by simp [getObj, Sem.run, hh2]
     have hbk : seen.toArray.back? = some st := by simpa [List.back?_toArray] using hst
     refine ⟨.tuple #[r.key, r.val], ?_, ?_⟩
     ·simp only [Instr.entry, Sem.run_bind, hg1, hg2, Result.andThen_ok, hbk]
      have : rs.toArray.find? (fun e => e.born == st) = some r := by simpa using r1
      simp [this]
     ·simp only [Rep]
      exact ⟨_, rfl, RepL.cons r2 (RepL.cons r3 (RepL.nil _))⟩
    ·cases h
   ·cases h
  ·cases h
 ·cases h
end Go.Ab
namespace Go.Ab
open Go.RowKit (Below)
variable {P : Program} {g : Gh} {n0 : Nat} {H : Heap} {w : World}
theorem buildSliceB_run {t : TypeId} {len : Nat} {parts : List (Nat × V)} {y : V} {H' : Heap} (h : buildSliceB P H t len parts = some (y, H')) (hI : Inv g n0 H w) {vs : Array (Nat × Value)} (hp : RepP g parts vs.toList) :
    ∃ g' w' u, (Instr.buildSlice t len vs).run P w = .ok u w' ∧ Good n0 g w g' w' ∧ Inv g' n0 H' w' ∧ Rep g' y u := by
  unfold buildSliceB at h
  split at h
  · rename_i e he
    split at h
    · rename_i sz z hs hz
      split at h
      · rename_i hle
        obtain ⟨hle, hsz⟩ := hle
        simp only [Option.map_eq_some_iff, Prod.mk.injEq] at h
        obtain ⟨cs, hcs, rfl, rfl⟩ := h
        obtain ⟨i, zv, hi, hzv, hr, h1, hzl, hzs⟩ := zeroCs_run hz g
        obtain ⟨i', hi', rfl⟩ := info_of_szO hs
        rw [hi] at hi'
        simp only [Option.some.injEq] at hi'
        subst hi'
        have hfl := rep_flat hr len
        obtain ⟨arr, e1, e2, e3, e4⟩ := fillL_run _ parts vs.toList _ cs _ hcs hp hfl (flat_one h1 len)
        have hu := run_underlying_slice he
        have hrun : (Instr.buildSlice t len vs).run P w = .ok (.slice (some ⟨w.heap.size, 0, none⟩) len len) (w.alloc (.cells arr e)) := by
          rw [hzs] at e1
          have hsm : ¬ (len * i.size > 2 ^ 24) := by
            have : (65536 : Nat) ≤ 2 ^ 24 := by decide
            omega
          simp only [Instr.buildSlice, Sem.run_bind, run_underlying hu, Result.andThen_ok, run_szO hs]
          rw [if_neg hsm]
          by_cases h0 : len * i.size = 0
          · have e0 : ∀ f : Nat → Value, (Array.range 0).map f = #[] := fun f => by simp
            rw [h0, e0] at e1
            simp only [h0, if_true, Sem.run_bind, Sem.run_pure, Result.andThen_ok, e0, e1, newRow, run_newObj_alloc]
          · simp only [h0, if_false, Sem.run_bind, Sem.run_pure, run_zeroValue hi hzv, Result.andThen_ok, hzs, e1, newRow, run_newObj_alloc]
        have hrep := RepL.mono (Gh.addB_le (hI.new _ (Nat.le_refl _)) (B := w.heap.size) (c := len * i.size)) _ _ e2
        have hal : cs.length = arr.size := by have := e2.length; simpa using this
        have hcl : cs.length = len * i.size := by
          have h5 := hfl.length
          simp only [Array.length_toList, Array.size_map, Array.size_range, hzs] at h5
          rw [e4, h5]
        have hal2 : arr.size = len * i.size := by rw [← hal, hcl]
        obtain ⟨k1, k2, k3⟩ := hI.newBlk (.cells arr e) (.cells cs) (len * i.size) (by
          refine ⟨by simp [Gh.addB], fun o => hI.noG (Nat.le_refl _) o, _, e, (0, 0), World.alloc_heap_new _ _, by simp [hcl, hal2, Gh.addB], fun j x hx => ?_, fun j _ => by simp,
            by simp [Gh.addB, hcl, hal2], by simp [Gh.addB, hal2], fun j _ => by simp⟩
          obtain ⟨v, hv, hrv⟩ := hrep.get hx
          exact ⟨e3 x (List.mem_of_getElem? hx), v, by rw [← Array.getElem?_toList]; exact hv, hrv⟩)
        refine ⟨_, _, _, hrun, k2, k1, ?_⟩
        simp only [Rep]
        exact ⟨_, _, k3, rfl, Nat.le_refl _, by simp [Gh.addB]⟩
      · cases h
    · cases h
  · cases h
theorem makeSliceV_run {t : TypeId} {lc mr : Bool} {l c y : V} {H' : Heap} (h : makeSliceV P H t lc mr l c = some (y, H')) (hI : Inv g n0 H w) {vl vc : Value} (rl : Rep g l vl) (rc : Rep g c vc) :
    ∃ g' w' u, (Instr.makeSlice t vl vc).run P w = .ok u w' ∧ Good n0 g w g' w' ∧ Inv g' n0 H' w' ∧ Rep g' y u := by
  unfold makeSliceV at h
  split at h
  · rename_i e l' c' he hl hc
    split at h
    · rename_i i z hi hz
      split at h
      · rename_i hcond
        obtain ⟨h1, h2, h3, h4⟩ := hcond
        obtain ⟨i', zv, hi', hzv, hr, hz1, hzl, hzs⟩ := zeroCs_run hz g
        rw [hi] at hi'
        simp only [Option.some.injEq] at hi'
        subst hi'
        have hu := run_underlying_slice he
        obtain ⟨kl, rfl⟩ : ∃ k, l = .int k l' := by
          cases l <;> simp [intOf?] at hl
          exact ⟨_, by rw [hl]⟩
        obtain ⟨kc, rfl⟩ : ∃ k, c = .int k c' := by
          cases c <;> simp [intOf?] at hc
          exact ⟨_, by rw [hc]⟩
        have e1 := rep_int rl
        have e2 := rep_int rc
        subst e1; subst e2
        clear hl hc rl rc
        obtain ⟨l, hll⟩ : ∃ l, l = l' := ⟨_, rfl⟩
        obtain ⟨c, hcc⟩ : ∃ c, c = c' := ⟨_, rfl⟩
        subst hll; subst hcc
        simp only [smallRow, Bool.and_eq_true, decide_eq_true_eq] at h3
        have wl : IntKind.i64.wrap l = l := IntWalk.i64_in _ (by omega)
        have wc : IntKind.i64.wrap c = c := IntWalk.i64_in _ (by omega)
        have hby : c.toNat * i.bytes ≤ 140737488355328 := by
          have := Nat.mul_le_mul h3.1 h3.2; omega
        have hbyi : (i.bytes : Int) * c ≤ 281474976710656 := by
          have e1 : (c : Int) = (c.toNat : Int) := by omega
          rw [e1, Int.mul_comm]
          have : ((c.toNat * i.bytes : Nat) : Int) ≤ ((140737488355328 : Nat) : Int) := Int.ofNat_le.2 hby
          rw [Int.natCast_mul] at this
          omega
        have h248 : (2 : Int) ^ 48 = 281474976710656 := by simp
        have e0 : ∀ f : Nat → Value, (Array.range 0).map f = #[] := fun f => by simp
        have hcells : ∀ n, (do
            let zero ← if n = 0 then (pure #[] : Sem (Array Value)) else do pure (← zeroValue e).cells
            let a ← newRow e ((Array.range n).map (zero[· % zero.size]!))
            pure (Value.slice (some a) l.toNat c.toNat)).run P w = .ok (.slice (some ⟨w.heap.size, 0, none⟩) l.toNat c.toNat) (w.alloc (.cells ((Array.range n).map (zv.cells[· % zv.cells.size]!)) e)) := by
          intro n
          by_cases hn : n = 0
          · subst hn
            simp only [if_true, Sem.run_bind, Sem.run_pure, Result.andThen_ok, newRow, run_newObj_alloc, e0]
          · simp only [hn, if_false, Sem.run_bind, run_zeroValue hi hzv, Result.andThen_ok, Sem.run_pure, newRow, run_newObj_alloc]
        have hrun : (Instr.makeSlice t (.int kl l) (.int kc c)).run P w = .ok (.slice (some ⟨w.heap.size, 0, none⟩) l.toNat c.toNat) (w.alloc (.cells ((Array.range (c.toNat * i.size)).map (zv.cells[· % zv.cells.size]!)) e)) := by
          rw [← hcells]
          simp only [Instr.makeSlice, Sem.run_bind, run_underlying hu, Result.andThen_ok, asInt, asIntOf, Sem.run_pure, run_typeInfo hi, wl, wc]
          rw [if_neg (by
            simp only [Bool.or_eq_true, decide_eq_true_eq, not_or, h248]
            refine ⟨⟨⟨by omega, by omega⟩, by omega⟩, by omega⟩)]
          simp only [Sem.run_bind, run_askRoom, Result.andThen_ok, sizeOf, run_typeInfo hi, Sem.run_pure]
        have hfl := rep_flat hr c.toNat
        rw [hzs] at hfl
        split at h
        · split at h
          · rename_i hl0
            simp only [Option.some.injEq, Prod.mk.injEq] at h
            obtain ⟨rfl, rfl⟩ := h
            subst hl0
            obtain ⟨g', k1, k2, k3⟩ := hI.newOwn (e := e) (cs := []) (vs := []) (rest := ((Array.range (c.toNat * i.size)).map (zv.cells[· % zv.cells.size]!)).toList) (RepL.nil g) (by simp) i.size c.toNat (by simp) 0
            simp only [List.nil_append, Array.toArray_toList, Nat.zero_add] at k1 k2 k3
            exact ⟨g', _, _, hrun, k2, k1, k3⟩
          · cases h
        · split at h
          · rename_i hlc
            subst hlc
            split at h
            · simp only [Option.some.injEq, Prod.mk.injEq] at h
              obtain ⟨rfl, rfl⟩ := h
              have hll : ((Array.range (l.toNat * i.size)).map (zv.cells[· % zv.cells.size]!)).toList.take ((List.replicate l.toNat z).flatten).length = ((Array.range (l.toNat * i.size)).map (zv.cells[· % zv.cells.size]!)).toList :=
                List.take_of_length_le (by have := hfl.length; simp at this ⊢; omega)
              obtain ⟨g', k1, k2, k3, _⟩ := hI.newRow ((Array.range (l.toNat * i.size)).map (zv.cells[· % zv.cells.size]!)) e ((List.replicate l.toNat z).flatten) (by rw [hll, hzs]; exact hfl) (flat_one hz1 _)
              refine ⟨g', _, _, hrun, k2, k1, ?_⟩
              simp only [Rep]
              refine ⟨_, _, rfl, Nat.le_refl _, by simp, by simp, by simp, by simp, ?_⟩
              intro A hA
              simp only [Option.some.injEq] at hA
              subst hA
              exact ⟨fun _ => rfl, k3, by simp⟩
            simp only [Option.some.injEq, Prod.mk.injEq] at h
            obtain ⟨rfl, rfl⟩ := h
            have hrep := RepL.mono (Gh.addB_le (hI.new _ (Nat.le_refl _)) (B := w.heap.size) (c := l.toNat * i.size)) _ _ hfl
            obtain ⟨k1, k2, k3⟩ := hI.newBlk (.cells ((Array.range (l.toNat * i.size)).map (zv.cells[· % zv.cells.size]!)) e) (.cells ((List.replicate l.toNat z).flatten)) (l.toNat * i.size) (by
              refine ⟨by simp [Gh.addB], fun o => hI.noG (Nat.le_refl _) o, _, e, (0, 0), World.alloc_heap_new _ _, by have := hfl.length; simp at this ⊢; omega, fun j x hx => ?_, fun j _ => by simp,
                by have := hfl.length; simp [Gh.addB] at this ⊢; omega, by simp [Gh.addB], fun j _ => by simp⟩
              obtain ⟨v, hv, hrv⟩ := hrep.get hx
              exact ⟨flat_one hz1 _ x (List.mem_of_getElem? hx), v, by rw [← Array.getElem?_toList, hzs]; exact hv, hrv⟩)
            refine ⟨_, _, _, hrun, k2, k1, ?_⟩
            simp only [Rep]
            exact ⟨_, _, k3, rfl, Nat.le_refl _, by simp [Gh.addB]⟩
          · cases h
      · cases h
    · cases h
  · cases h
theorem newVar_run {cs : List V} {vs : Array Value} (e : TypeId) (hI : Inv g n0 H w) (hr : RepL g cs vs.toList) (h1 : ∀ c ∈ cs, V.one c = true) :
    ∃ g', Good n0 g w g' (w.alloc (.cells vs e)) ∧ Inv g' n0 (newB H (.cells cs)) (w.alloc (.cells vs e)) ∧ Rep g' (.ptr H.bs.length 0) (.pointer (some ⟨w.heap.size, 0, none⟩)) := by
  have hrep := RepL.mono (Gh.addB_le (hI.new _ (Nat.le_refl _)) (B := w.heap.size) (c := vs.size)) _ _ hr
  obtain ⟨k1, k2, k3⟩ := hI.newBlk (.cells vs e) (.cells cs) vs.size (by
    refine ⟨by simp [Gh.addB], fun o => hI.noG (Nat.le_refl _) o, vs, e, (0, 0), World.alloc_heap_new _ _, by have := hr.length; simp at this; omega, fun j x hx => ?_, fun j _ => by simp,
      by have := hr.length; simp [Gh.addB] at this ⊢; omega, by simp [Gh.addB], fun j _ => by simp⟩
    obtain ⟨v, hv, hrv⟩ := hrep.get hx
    exact ⟨h1 x (List.mem_of_getElem? hx), v, by simpa using hv, hrv⟩)
  exact ⟨_, k2, k1, by simp only [Rep]; exact ⟨_, k3, rfl⟩⟩
theorem typeAssertV_run {x y : V} {a xt : TypeId} {ok : Bool} (h : typeAssertV P x a ok = some y) {v : Value} (r : Rep g x v) (w : World) : ∃ u, (Instr.typeAssert v xt a ok).run P w = .ok u w ∧ Rep g y u := by
  unfold typeAssertV at h
  split at h
  · cases h
  · rename_i d hni hu
    have hni : ∀ ms, d ≠ .interface ms := fun ms e => hni ms e
    have hmk : ∀ (z : V), zeroV P a = some z → ∃ zv, (zeroValue a).run P w = .ok zv w ∧ Rep g z zv := fun z hz => let ⟨zv, h1, h2, _⟩ := zeroV_run hz g w; ⟨zv, h1, h2⟩
    split at h
    · rename_i t v'
      simp only [Rep] at r
      obtain ⟨u, rfl, r⟩ := r
      split at h
      · rename_i ht
        subst ht
        simp only [Option.some.injEq] at h
        subst h
        cases ok with
        | true =>
          refine ⟨.tuple #[u, .bool true], ?_, ?_⟩
          · simp only [Instr.typeAssert, Sem.run_bind, run_underlying hu, Result.andThen_ok]
            cases d <;> first | exact absurd rfl (hni _) | simp
          · simp only [if_true, Rep]
            exact ⟨_, rfl, RepL.cons r (RepL.cons (Rep.bool true) (RepL.nil g))⟩
        | false =>
          refine ⟨u, ?_, r⟩
          simp only [Instr.typeAssert, Sem.run_bind, run_underlying hu, Result.andThen_ok]
          cases d <;> first | exact absurd rfl (hni _) | simp
      · rename_i ht
        split at h
        · rename_i hok
          subst hok
          simp only [Option.map_eq_some_iff] at h
          obtain ⟨z, hz, rfl⟩ := h
          obtain ⟨zv, h1, h2⟩ := hmk z hz
          refine ⟨.tuple #[zv, .bool false], ?_, ?_⟩
          · simp only [Instr.typeAssert, Sem.run_bind, run_underlying hu, Result.andThen_ok]
            cases d <;> first | exact absurd rfl (hni _) | simp [ht, h1]
          · simp only [Rep]
            exact ⟨_, rfl, RepL.cons h2 (RepL.cons (Rep.bool false) (RepL.nil g))⟩
        · cases h
    · simp only [Rep] at r
      subst r
      split at h
      · rename_i hok
        subst hok
        simp only [Option.map_eq_some_iff] at h
        obtain ⟨z, hz, rfl⟩ := h
        obtain ⟨zv, h1, h2⟩ := hmk z hz
        refine ⟨.tuple #[zv, .bool false], ?_, ?_⟩
        · simp only [Instr.typeAssert, Sem.run_bind, run_underlying hu, Result.andThen_ok]
          cases d <;> first | exact absurd rfl (hni _) | simp [h1]
        · simp only [Rep]
          exact ⟨_, rfl, RepL.cons h2 (RepL.cons (Rep.bool false) (RepL.nil g))⟩
      · cases h
    · cases h
  · cases h
def GlobOk (c : Cfg) (g : Gh) : Prop := ∀ i cs, c.glob i = some cs → RepC g.shut cs i 0
theorem GlobOk.mono {c : Cfg} {g g' : Gh} (h : GlobOk c g) (hle : g.le g') : GlobOk c g' := fun i cs hc => RepC.mono hle.shut _ _ _ (h i cs hc)
theorem ev_rep {c : Cfg} {g : Gh} (hg : GlobOk c g) {t : List V} {a : Act} (ht : RepL g t a.tmps.toList) (x : Operand) : Rep g (evT c t x) (a.eval x) := by
  cases x with
  | tmp i =>
    simp only [evT, Act.eval]
    cases hx : t[i]? with
    | none => simp [List.getD, hx, Rep]
    | some y =>
      obtain ⟨v, hv, hr⟩ := ht.get hx
      have hv' : a.tmps[i]? = some v := by simpa using hv
      have : i < a.tmps.size := (Array.getElem?_eq_some_iff.1 hv').1
      have e1 : a.tmps.getD i Go.undef = v := by
        have := (Array.getElem?_eq_some_iff.1 hv').2
        simp [Array.getD, *]
      rw [e1]
      simpa [List.getD, hx] using hr
  | const v => exact ofVal_rep g v
  | global i =>
    simp only [evT, Act.eval]
    cases hc : c.glob i with
    | none => simp [Rep]
    | some cs => simp only [Rep]; exact ⟨i, 0, rfl, RepC.mono g.shut_le _ _ _ (hg i cs hc)⟩
  | func f => simp only [evT, Act.eval, Rep]; exact ⟨#[], #[], rfl, RepL.nil g, RepL.nil g⟩
theorem ev_list {c : Cfg} {g : Gh} (hg : GlobOk c g) {t : List V} {a : Act} (ht : RepL g t a.tmps.toList) : ∀ l : List Operand, RepL g (l.map (evT c t)) (l.map a.eval)
  | [] => RepL.nil g
  | x :: l => by rw [List.map_cons, List.map_cons, RepL.cons_iff]; exact ⟨ev_rep hg ht x, ev_list hg ht l⟩
theorem ev_parts {c : Cfg} {g : Gh} (hg : GlobOk c g) {t : List V} {a : Act} (ht : RepL g t a.tmps.toList) : ∀ l : List (Nat × Operand), RepP g (l.map fun (i, x) => (i, evT c t x)) (l.map fun (i, x) => (i, a.eval x))
  | [] => rfl
  | (i, x) :: l => ⟨a.eval x, _, rfl, ev_rep hg ht x, ev_parts hg ht l⟩
theorem ev_opt {c : Cfg} {g : Gh} (hg : GlobOk c g) {t : List V} {a : Act} (ht : RepL g t a.tmps.toList) (o : Option Operand) : RepO g (o.map (evT c t)) (o.map a.eval) := by
  cases o with
  | none => trivial
  | some x => exact ev_rep hg ht x
def ORel (P : Program) (g : Gh) (n0 : Nat) (w : World) (a : Act) (o : Oper) : OR → Prop
  | .val v h => ∃ g' w' u, (execOp a.eval o).run P w = .ok (.value u) w' ∧ Good n0 g w g' w' ∧ Inv g' n0 h w' ∧ Rep g' v u
  | .skip h => ∃ g' w', (execOp a.eval o).run P w = .ok .skip w' ∧ Good n0 g w g' w' ∧ Inv g' n0 h w'
  | .dfr (.call f args) => ∃ d, (execOp a.eval o).run P w = .ok (.defer d) w ∧ ∃ vf vs, Rep g f vf ∧ RepL g args vs.toList ∧ (Deferred.ofValue vf vs).run P w = .ok d w
  | .dfr (.mark _) => False
  | .pan v => ∃ u, (execOp a.eval o).run P w = .halt (.panic u) w ∧ Rep g v u
  | .recover => (execOp a.eval o).run P w = .ok .recover w
  | .call f args => ∃ vf vs, Rep g f vf ∧ RepL g args vs.toList ∧ (execOp a.eval o).run P w = (do let d ← Deferred.ofValue vf vs; invoke d.target d.args : Sem Next).run P w
theorem opR_defer {c : Cfg} {H : Heap} {ev : Operand → V} {o : Oper} {r : OR} (h : opR c H ev o = some r) (hr : ∀ d, r ≠ .dfr d) : ∀ l, o.op ≠ .defer l := by
  intro l hl
  unfold opR at h
  rw [hl] at h
  simp only at h
  split at h
  · split at h
    · cases h
    simp only [Option.some.injEq] at h
    exact hr _ h.symm
  · cases h
theorem ORel.pureV {g : Gh} {a : Act} {o : Oper} {x : V} {u : Value} (hI : Inv g n0 H w) (h : (execOp a.eval o).run P w = .ok (.value u) w) (r : Rep g x u) : ORel P g n0 w a o (.val x H) :=
  ⟨g, w, u, h, Good.refl _ _ _, hI, r⟩
theorem meth_run {P : Program} {ty : TypeId} {m : String} {f : FuncId} (h : methV P ty m = some f) {a : Act} {o : Oper} {cl : Call} {r : Operand} {u : Value} (ho : o.op = .call cl) (hc : cl.callee = .invoke r m) (hu : a.eval r = .iface ty u) (w : World) :
    (execOp a.eval o).run P w = (do let d ← Deferred.ofValue (.func (.func f) #[] #[]) (#[u] ++ cl.args.map a.eval); invoke d.target d.args : Sem Next).run P w := by
  unfold methV at h
  split at h
  · rename_i i d hi hd
    split at h
    · rename_i mm hm
      split at h
      · rename_i hp
        split at h
        · cases h
        · rename_i f' hfn hnp
          simp only [Option.some.injEq] at h
          subst h
          have hpath : mm.path.toList = [] := by simpa using hp
          have hrec : ∀ ww, (receiverAt ty (.val u) false ww).run P w = .ok u w := by
            intro ww
            unfold receiverAt
            simp only [Sem.run_bind, run_underlying hd, Result.andThen_ok]
            rfl
          have hmeth : ∀ n, (method (n + 1) ty u m).run P w = .ok (f', u) w := by
            intro n
            unfold method
            simp only [Sem.run_bind, run_typeInfo hi, Result.andThen_ok, hm, hpath, follow, Sem.run_pure, hfn, hrec]
          obtain ⟨n, hn⟩ : ∃ n, P.types.size + Made.depth = n + 1 := ⟨P.types.size + (Made.depth - 1), by have : 0 < Made.depth := by decide
                                                                                                          omega⟩
          have hprog : (program : Sem Program).run P w = .ok P w := rfl
          simp only [execOp, ho, resolve, hc, hu, Sem.run_bind, Sem.run_pure, Result.andThen_ok, invoke, Deferred.ofValue]
          have h0 : (#[Value.iface ty u] ++ Array.map a.eval cl.args)[0]? = some (.iface ty u) := by rw [← Array.getElem?_toList, Array.toList_append]; rfl
          have h1 : (#[Value.iface ty u] ++ Array.map a.eval cl.args).extract 1 (#[Value.iface ty u] ++ Array.map a.eval cl.args).size = Array.map a.eval cl.args := by
            apply Array.toList_inj.1
            simp only [Array.toList_extract, Array.toList_append, Array.toList_map, Array.size_append, Array.size_map, List.extract_eq_take_drop]
            simp
            try exact List.take_of_length_le (by simp)
          rw [h0]
          simp only [callMethod, h1, Sem.run_bind, hprog, Result.andThen_ok, hn, hmeth]
          simp
        · cases h
      · cases h
    · cases h
  · cases h
theorem opR_run {c : Cfg} {t : List V} {a : Act} {o : Oper} {r : OR} (h : opR c H (evT c t) o = some r) (hI : Inv g n0 H w) (hg : GlobOk c g) (ht : RepL g t a.tmps.toList) : ORel c.P g n0 w a o r := by
  unfold opR at h
  cases ho : o.op with
  | move x =>
    simp only [ho, Option.some.injEq] at h; subst h
    exact ORel.pureV hI (by simp [execOp, ho]) (ev_rep hg ht x)
  | assign x =>
    simp only [ho, Option.some.injEq] at h; subst h
    exact ORel.pureV hI (by simp [execOp, ho]) (ev_rep hg ht x)
  | pick q x y =>
    simp only [ho] at h
    split at h
    · rename_i b hb
      simp only [Option.some.injEq] at h; subst h
      have := rep_bool (hb ▸ ev_rep hg ht q : Rep g (.bool b) (a.eval q))
      refine ORel.pureV hI (u := if b then a.eval x else a.eval y) (by simp [execOp, ho, this, asBool]) ?_
      cases b
      · exact ev_rep hg ht y
      · exact ev_rep hg ht x
    · cases h
  | alloc e =>
    simp only [ho] at h
    split at h
    · split at h
      · rename_i z hz
        simp only [Option.some.injEq] at h; subst h
        obtain ⟨i, zv, hi, hzv, hr, h1, hzl, hzs⟩ := zeroCs_run hz g
        obtain ⟨g', k1, k2, k3⟩ := newVar_run e hI hr h1
        exact ⟨g', _, _, by simp [execOp, ho, Instr.alloc, run_zeroValue hi hzv, newVar, newRow], k1, k2, k3⟩
      · cases h
    · rename_i b hb
      split at h
      · cases h
      · rename_i hne
        split at h
        · rename_i hz
          simp only [Option.some.injEq] at h; subst h
          obtain ⟨i, zv, hi, hzv, hr, h1, hzl, hzs⟩ := zeroCs_run hz g
          have hzc : zv.cells = #[.pointer none, .slice none 0 0] := by
            simp only [RepL, Rep] at hr
            obtain ⟨y, ys, e1, rfl, z, zs, e2, ⟨a, cap, rfl, _, _, h4, _⟩, rfl⟩ := hr
            obtain ⟨rfl, rfl⟩ := h4 trivial
            subst e2; exact Array.ext' e1
          obtain ⟨k1, k2, k3⟩ := hI.newBlk (.cells zv.cells e) (.bld e b false []) 0 ⟨by simp [Gh.addB], fun o => hI.noG (Nat.le_refl _) o, .slice none 0 0, by rw [hzc]; exact World.alloc_heap_new _ _, World.ownsRow_nil _ _ _ _, hne, by simp [Value.ownBlock]⟩
          exact ⟨_, _, .pointer (some ⟨w.heap.size, 0, none⟩), by simp [execOp, ho, Instr.alloc, run_zeroValue hi hzv, newVar, newRow], k2, k1, by simp only [Rep]; exact ⟨_, k3, rfl⟩⟩
        · cases h
  | box e x =>
    simp only [ho] at h
    split at h
    · rename_i cs hcs
      simp only [Option.some.injEq] at h; subst h
      obtain ⟨r1, r2⟩ := cellsO_rep hcs (ev_rep hg ht x)
      obtain ⟨g', k1, k2, k3⟩ := newVar_run e hI r1 r2
      exact ⟨g', _, _, by simp [execOp, ho, Instr.box, newVar, newRow], k1, k2, k3⟩
    · cases h
  | build ty parts =>
    simp only [ho, Option.map_eq_some_iff] at h
    obtain ⟨y, hy, rfl⟩ := h
    obtain ⟨u, h1, h2⟩ := buildV_run hy (vs := parts.map fun (i, x) => (i, a.eval x)) (by rw [Array.toList_map]; exact ev_parts hg ht _) w
    exact ORel.pureV hI (by simp [execOp, ho, h1]) h2
  | buildSlice ty len parts =>
    simp only [ho] at h
    split at h
    · simp only [Option.map_eq_some_iff] at h
      obtain ⟨⟨y, H'⟩, hy, rfl⟩ := h
      obtain ⟨g', w', u, h1, h2, h3, h4⟩ := buildSliceB_run hy hI (vs := parts.map fun (i, x) => (i, a.eval x)) (by rw [Array.toList_map]; exact ev_parts hg ht _)
      exact ⟨g', w', u, by simp [execOp, ho, h1], h2, h3, h4⟩
    simp only [Option.map_eq_some_iff] at h
    obtain ⟨y, hy, rfl⟩ := h
    obtain ⟨g', w', u, h1, h2, h3, h4⟩ := buildSliceV_run hy hI (vs := parts.map fun (i, x) => (i, a.eval x)) (by rw [Array.toList_map]; exact ev_parts hg ht _)
    exact ⟨g', w', u, by simp [execOp, ho, h1], h2, h3, h4⟩
  | load ty x =>
    simp only [ho, Option.map_eq_some_iff] at h
    obtain ⟨y, hy, rfl⟩ := h
    obtain ⟨u, h1, h2⟩ := loadAt_run hy hI (ev_rep hg ht x)
    exact ORel.pureV hI (by simp [execOp, ho, h1]) h2
  | store ty x y =>
    simp only [ho, Option.map_eq_some_iff] at h
    obtain ⟨h', hy, rfl⟩ := h
    obtain ⟨w', h1, h2, h3⟩ := storeP_run hy hI (ev_rep hg ht x) (ev_rep hg ht y)
    exact ⟨g, w', by simp [execOp, ho, h1], h2, h3⟩
  | nilCheck x =>
    simp only [ho] at h
    have hx := ev_rep hg ht x
    cases he : evT c t x with
    | undef => simp [he] at h
    | nilptr => simp [he] at h
    | niliface => simp [he] at h
    | nilfunc => simp [he] at h
    | func fn p q =>
      cases fn with
      | func f =>
        simp only [he, Option.some.injEq] at h; subst h
        rw [he] at hx
        have hx0 := hx
        simp only [Rep] at hx
        obtain ⟨p', q', hv, _⟩ := hx
        exact ORel.pureV hI (u := a.eval x) (by simp [execOp, ho, hv]) hx0
      | _ => simp [he] at h
    | _ =>
      simp only [he, Option.some.injEq] at h; subst h
      rw [he] at hx
      have hx0 := hx
      simp only [Rep] at hx
      refine ORel.pureV hI (u := a.eval x) ?_ hx0
      first
        | (simp [execOp, ho, hx]; done)
        | (obtain ⟨_, _, hv, _⟩ := hx; simp [execOp, ho, hv]; done)
        | (obtain ⟨_, hv, _⟩ := hx; simp [execOp, ho, hv]; done)
        | (obtain ⟨_, _, hv⟩ := hx; simp [execOp, ho, hv]; done)
        | (obtain ⟨_, _, _, hv, _⟩ := hx; simp [execOp, ho, hv]; done)
  | binOp op ty x y ty2 =>
    simp only [ho, Option.map_eq_some_iff] at h
    obtain ⟨z, hz, rfl⟩ := h
    obtain ⟨u, h1, h2⟩ := binV_run hz (ev_rep hg ht x) (ev_rep hg ht y) w
    exact ORel.pureV hI (by simp only [execOp, ho, Sem.run_bind] at h1 ⊢; rw [h1]; rfl) h2
  | unOp op ty x =>
    simp only [ho, Option.map_eq_some_iff] at h
    obtain ⟨z, hz, rfl⟩ := h
    obtain ⟨u, h1, h2⟩ := unV_run hz (ev_rep hg ht x) w (P := c.P)
    exact ORel.pureV hI (by simp [execOp, ho, h1]) h2
  | convert s d x =>
    simp only [ho, Option.map_eq_some_iff] at h
    obtain ⟨⟨y, h'⟩, hy, rfl⟩ := h
    obtain ⟨g', w', u, h1, h2, h3, h4⟩ := convV_run hy hI (ev_rep hg ht x)
    exact ⟨g', w', u, by simp [execOp, ho, h1], h2, h3, h4⟩
  | makeInterface ty x =>
    simp only [ho] at h
    have hx := ev_rep hg ht x
    split at h
    · cases h
    · rename_i d hni hu
      split at h
      · cases h
      · rename_i y hy1
        simp only [Option.some.injEq] at h; subst h
        refine ORel.pureV hI (u := .iface ty (a.eval x)) ?_ (by simp only [Rep]; exact ⟨_, rfl, hx⟩)
        simp only [execOp, ho, Instr.makeInterface, Sem.run_bind, run_underlying hu, Result.andThen_ok]
        cases d <;> first | exact absurd rfl (hni _) | simp
    · cases h
  | makeFunc fn first cap =>
    simp only [ho, Option.some.injEq] at h; subst h
    refine ORel.pureV hI (u := .func fn (first.map a.eval) (cap.map a.eval)) (by simp [execOp, ho, Instr.makeFunc]) ?_
    simp only [Rep]
    exact ⟨_, _, rfl, by rw [Array.toList_map]; exact ev_list hg ht _, by rw [Array.toList_map]; exact ev_list hg ht _⟩
  | makeMap ty q =>
    simp only [ho] at h
    have hnew : ∃ g', Good n0 g w g' (w.alloc (.map #[] 0)) ∧ Inv g' n0 (newB H (.map [] 0)) (w.alloc (.map #[] 0)) ∧ Rep g' (.map H.bs.length) (.map (some w.heap.size)) := by
      obtain ⟨k1, k2, k3⟩ := hI.newBlk (.map #[] 0) (.map [] 0) 0 ⟨by simp [Gh.addB], [], World.alloc_heap_new _ _, rfl, by simp⟩
      exact ⟨_, k2, k1, by simp only [Rep]; exact ⟨_, k3, rfl⟩⟩
    obtain ⟨g', k1, k2, k3⟩ := hnew
    cases q with
    | none =>
      simp only [Option.some.injEq] at h; subst h
      exact ⟨g', _, _, by simp [execOp, ho, Instr.makeMap], k1, k2, k3⟩
    | some x =>
      simp only at h
      split at h
      · rename_i kt et n hu hn
        simp only [Option.some.injEq] at h; subst h
        have hx := ev_rep hg ht x
        cases he : evT c t x <;> simp [he, intOf?] at hn
        rw [he] at hx
        have := rep_int hx
        exact ⟨g', _, _, by simp [execOp, ho, Instr.makeMap, run_underlying hu, asInt, asIntOf, this], k1, k2, k3⟩
      · cases h
  | makeSlice ty x y =>
    simp only [ho, Option.map_eq_some_iff] at h
    obtain ⟨⟨z, h'⟩, hy, rfl⟩ := h
    obtain ⟨g', w', u, h1, h2, h3, h4⟩ := makeSliceV_run hy hI (ev_rep hg ht x) (ev_rep hg ht y)
    exact ⟨g', w', u, by simp [execOp, ho, h1], h2, h3, h4⟩
  | slice ty x lo hi mx =>
    simp only [ho, Option.map_eq_some_iff] at h
    obtain ⟨y, hy, rfl⟩ := h
    obtain ⟨u, h1, h2⟩ := sliceV_run hy (ev_rep hg ht x) (ev_opt hg ht lo) (ev_opt hg ht hi) (ev_opt hg ht mx) hI w
    exact ORel.pureV hI (by simp [execOp, ho, h1]) h2
  | fieldAddr s x f =>
    simp only [ho, Option.map_eq_some_iff] at h
    obtain ⟨y, hy, rfl⟩ := h
    obtain ⟨u, h1, h2⟩ := fieldAddrV_run hy (ev_rep hg ht x) w
    exact ORel.pureV hI (by simp [execOp, ho, h1]) h2
  | field s x f =>
    simp only [ho, Option.map_eq_some_iff] at h
    obtain ⟨y, hy, rfl⟩ := h
    obtain ⟨u, h1, h2⟩ := fieldV_run hy (ev_rep hg ht x) w
    exact ORel.pureV hI (by simp [execOp, ho, h1]) h2
  | indexAddr ty x i =>
    simp only [ho, Option.map_eq_some_iff] at h
    obtain ⟨y, hy, rfl⟩ := h
    obtain ⟨u, h1, h2⟩ := indexAddrV_run hy (ev_rep hg ht x) (ev_rep hg ht i) w
    exact ORel.pureV hI (by simp [execOp, ho, h1]) h2
  | index ty x i =>
    simp only [ho, Option.map_eq_some_iff] at h
    obtain ⟨y, hy, rfl⟩ := h
    obtain ⟨u, h1, h2⟩ := indexV_run hy (ev_rep hg ht x) (ev_rep hg ht i) w
    exact ORel.pureV hI (by simp [execOp, ho, h1]) h2
  | lookup ty m k ok =>
    simp only [ho, Option.map_eq_some_iff] at h
    obtain ⟨y, hy, rfl⟩ := h
    obtain ⟨u, h1, h2⟩ := lookupV_run hy hI (ev_rep hg ht m) (ev_rep hg ht k)
    exact ORel.pureV hI (by simp [execOp, ho, h1]) h2
  | mapUpdate ty m k x =>
    simp only [ho, Option.map_eq_some_iff] at h
    obtain ⟨h', hy, rfl⟩ := h
    obtain ⟨w', h1, h2, h3⟩ := mapUpdV_run hy hI (ev_rep hg ht m) (ev_rep hg ht k) (ev_rep hg ht x)
    exact ⟨g, w', by simp [execOp, ho, h1], h2, h3⟩
  | insert ty m k x =>
    simp only [ho, Option.map_eq_some_iff] at h
    obtain ⟨h', hy, rfl⟩ := h
    obtain ⟨w', h1, h2, h3⟩ := mapUpdV_run hy hI (ev_rep hg ht m) (ev_rep hg ht k) (ev_rep hg ht x)
    exact ⟨g, w', by simp [execOp, ho, h1], h2, h3⟩
  | typeAssert x xt at_ ok =>
    simp only [ho, Option.map_eq_some_iff] at h
    obtain ⟨y, hy, rfl⟩ := h
    obtain ⟨u, h1, h2⟩ := typeAssertV_run (xt := xt) hy (ev_rep hg ht x) w
    exact ORel.pureV hI (by simp [execOp, ho, h1]) h2
  | range ty x =>
    simp only [ho, Option.map_eq_some_iff] at h
    obtain ⟨⟨z, h'⟩, hy, rfl⟩ := h
    obtain ⟨g', w', u, h1, h2, h3, h4⟩ := rangeV_run hy hI (ev_rep hg ht x)
    exact ⟨g', w', u, by simp [execOp, ho, h1], h2, h3, h4⟩
  | entry x =>
    simp only [ho, Option.map_eq_some_iff] at h
    obtain ⟨y, hy, rfl⟩ := h
    obtain ⟨u, h1, h2⟩ := entryV_run (P := c.P) hy hI (ev_rep hg ht x)
    exact ORel.pureV hI (by simp [execOp, ho, h1]) h2
  | extract x i =>
    simp only [ho] at h
    have hx := ev_rep hg ht x
    split at h
    · rename_i vs he
      rw [he] at hx
      simp only [Option.map_eq_some_iff] at h
      obtain ⟨y, hy, rfl⟩ := h
      simp only [Rep] at hx
      obtain ⟨us, hu, hr⟩ := hx
      obtain ⟨u, hu2, hr2⟩ := hr.get hy
      exact ORel.pureV hI (u := u) (by simp [execOp, ho, hu, Instr.extract, show us[i]? = some u by simpa using hu2]) hr2
    · cases h
  | defer cl =>
    simp only [ho] at h
    split at h
    · rename_i f hc
      split at h
      · cases h
      rename_i hfn
      simp only [Bool.not_eq_true', Bool.not_eq_false] at hfn
      simp only [Option.some.injEq] at h; subst h
      have hf := ev_rep hg ht f
      have hargs := ev_list hg ht cl.args.toList
      have hd : ∃ d, (Deferred.ofValue (a.eval f) (cl.args.map a.eval)).run c.P w = .ok d w ∧ (Deferred.ofValue (a.eval f) (cl.args.map a.eval)) = pure d := by
        simp only [fnLike] at hfn
        cases he : evT c t f <;> simp [he] at hfn
        rw [he] at hf
        simp only [Rep] at hf
        obtain ⟨p, q, hv, _⟩ := hf
        rw [hv]
        exact ⟨_, rfl, rfl⟩
      obtain ⟨d, hd1, hd2⟩ := hd
      refine ⟨d, ?_, a.eval f, cl.args.map a.eval, hf, by rw [Array.toList_map]; exact hargs, by rw [hd2]; rfl⟩
      simp [execOp, ho, resolve, hc, hd2]
    · cases h
  | panic x =>
    simp only [ho] at h
    have hx := ev_rep hg ht x
    split at h
    · rename_i ty y he
      simp only [Option.some.injEq] at h; subst h
      rw [he] at hx
      have hx0 := hx
      simp only [Rep] at hx
      obtain ⟨u, hu, hr⟩ := hx
      exact ⟨a.eval x, by simp [execOp, ho, hu, Instr.panic, Result.andThen], hx0⟩
    · cases h
  | call cl =>
    simp only [ho] at h
    split at h
    · rename_i f hc
      simp only [Option.some.injEq] at h; subst h
      refine ⟨a.eval f, cl.args.map a.eval, ev_rep hg ht f, by rw [Array.toList_map]; exact ev_list hg ht _, ?_⟩
      simp [execOp, ho, resolve, hc]
    · rename_i r m hc
      have hx := ev_rep hg ht r
      split at h
      · rename_i ty x he
        rw [he] at hx
        simp only [Rep] at hx
        obtain ⟨u, hu, hr⟩ := hx
        simp only [Option.map_eq_some_iff] at h
        obtain ⟨f, hf, rfl⟩ := h
        refine ⟨.func (.func f) #[] #[], #[u] ++ cl.args.map a.eval, by simp only [Rep]; exact ⟨_, _, rfl, RepL.nil _, RepL.nil _⟩, by rw [Array.toList_append, Array.toList_map]; exact RepL.cons hr (ev_list hg ht _), ?_⟩
        exact meth_run hf ho hc hu w
      · cases h
    · rename_i hc
      split at h
      · rename_i ty x h1 h2
        simp only [Option.map_eq_some_iff] at h
        obtain ⟨y, hy, rfl⟩ := h
        obtain ⟨u, e1, e2⟩ := lenV_run hy hI (ev_rep hg ht x) cl.argTypes o.type (cl.args.map a.eval) h1 (by simp [h2])
        exact ORel.pureV hI (by simp [execOp, ho, resolve, hc, invoke, builtin, e1]) e2
      · cases h
    · rename_i hc
      split at h
      · rename_i s x h1 h2
        simp only [Option.map_eq_some_iff] at h
        obtain ⟨⟨y, h'⟩, hy, rfl⟩ := h
        obtain ⟨g', w', u, e1, e2, e3, e4⟩ := appendV_run hy hI (ev_rep hg ht s) (ev_rep hg ht x) o.type
        refine ⟨g', w', u, ?_, e2, e3, e4⟩
        have hap : (Builtin.append_ cl.argTypes o.type (cl.args.map a.eval)) = (Builtin.append_ cl.argTypes o.type #[a.eval s, a.eval x]) := by
          unfold Builtin.append_
          simp [h1, h2]
        simp [execOp, ho, resolve, hc, invoke, builtin, hap, e1]
      · cases h
    · rename_i hc
      split at h
      · cases h
      · rename_i x l hl
        simp only [Option.map_eq_some_iff] at h
        obtain ⟨y, hy, rfl⟩ := h
        obtain ⟨u, e1, e2⟩ := foldN_run (P := c.P) .max Builtin.max2 max2_ok _ _ _ _ _ hy (ev_rep hg ht x) (ev_list hg ht l) w
        exact ORel.pureV hI (by simp [execOp, ho, resolve, hc, invoke, builtin, Builtin.max_, hl, e1]) e2
    · rename_i hc
      split at h
      · cases h
      · rename_i x l hl
        simp only [Option.map_eq_some_iff] at h
        obtain ⟨y, hy, rfl⟩ := h
        obtain ⟨u, e1, e2⟩ := foldN_run (P := c.P) .min Builtin.min2 min2_ok _ _ _ _ _ hy (ev_rep hg ht x) (ev_list hg ht l) w
        exact ORel.pureV hI (by simp [execOp, ho, resolve, hc, invoke, builtin, Builtin.min_, hl, e1]) e2
    · rename_i hc
      simp only [Option.some.injEq] at h; subst h
      show (execOp a.eval o).run c.P w = _
      simp [execOp, ho, resolve, hc, invoke, builtin]
    · cases h
  | _ => simp only [ho] at h; cases h
end Go.Ab
namespace Go.Ab
open Go.RowKit (Below)
section
variable {P : Program} {b : Frame} {a : Act} {k : List Item} {cs : List Frame} {w w' : World} {ops : Array Oper} {i : Nat} {rest : List Nat} {o : Oper}
theorem fin_at (ho : ops[i]? = some o) (v : Value) : (b.atR a (.inRegion ops (i :: rest) :: k)).finish v = b.atR (a.put o.dst v) (.inRegion ops rest :: k) := by
 rw [Frame.finish_atR, ho]; rfl
theorem step_op_value {v : Value} (ho : ops[i]? = some o) (hw : Region.wanted o (yielded ops a.tmps) = true) (hr : (o.semAt b.roundOf a.eval).run P w = .ok (.value v) w') :
  step P (lone (b.atR a (.inRegion ops (i :: rest) :: k)) cs w) = .next (lone (b.atR (a.put o.dst v) (.inRegion ops rest :: k)) cs w') := by
 rw [← fin_at ho]
 refine step_lone_go ?_
 rw [stepGR_op ho hw]
 simp [stepG.apply, hr]
theorem step_op_skip' (ho : ops[i]? = some o) (hw : Region.wanted o (yielded ops a.tmps) = true) (hr : (o.semAt b.roundOf a.eval).run P w = .ok .skip w') :
  step P (lone (b.atR a (.inRegion ops (i :: rest) :: k)) cs w) = .next (lone (b.atR (a.put o.dst Go.undef) (.inRegion ops rest :: k)) cs w') := by
 rw [← fin_at ho]
 refine step_lone_go ?_
 rw [stepGR_op ho hw]
 simp [stepG.apply, hr]
theorem step_op_defer {d : Deferred} (ho : ops[i]? = some o) (hw : Region.wanted o (yielded ops a.tmps) = true) (hr : (o.semAt b.roundOf a.eval).run P w = .ok (.defer d) w') :
  step P (lone (b.atR a (.inRegion ops (i :: rest) :: k)) cs w) = .next (lone (b.atR ({ a with defers := d :: a.defers }.put o.dst Go.undef) (.inRegion ops rest :: k)) cs w') := by
 have := fin_at (b := b) (a := { a with defers := d :: a.defers }) (k := k) (rest := rest) ho Go.undef
 rw [← this]
 refine step_lone_go ?_
 rw [stepGR_op ho hw]
 simp [stepG.apply, hr, Frame.atR]
theorem step_op_panic {v : Value} (ho : ops[i]? = some o) (hw : Region.wanted o (yielded ops a.tmps) = true) (hr : (o.semAt b.roundOf a.eval).run P w = .halt (.panic v) w') :
  step P (lone (b.atR a (.inRegion ops (i :: rest) :: k)) cs w) = .next (lone { b.atR a (.inRegion ops (i :: rest) :: k) with mode := .panicking [{ v, recovered := false }] } cs w') := by
 refine step_lone_go ?_
 rw [stepGR_op ho hw, ← Frame.raise_atR]
 simp [stepG.apply, hr]
theorem step_op_enter {f : FuncId} {args : Array Value} (ho : ops[i]? = some o) (hw : Region.wanted o (yielded ops a.tmps) = true) (hr : (o.semAt b.roundOf a.eval).run P w = .ok (.enter f args) w') :
  step P (lone (b.atR a (.inRegion ops (i :: rest) :: k)) cs w) = .next (lone (Frame.enter P f args .normal) (b.atR a (.inRegion ops (i :: rest) :: k) :: cs) w') := by
 refine step_lone_go ?_
 rw [stepGR_op ho hw]
 simp [stepG.apply, hr, Frame.atR]
theorem step_op_round {l : Nat} {f : FuncId} {tm : Array Value} {as bo : Code} (ho : ops[i]? = some o) (hw : Region.wanted o (yielded ops a.tmps) = true) (hr : (o.semAt b.roundOf a.eval).run P w = .ok (.round l f tm as bo) w') :
  step P (lone (b.atR a (.inRegion ops (i :: rest) :: k)) cs w) = .next (lone (Frame.round l f tm as bo .normal) (b.atR a (.inRegion ops (i :: rest) :: k) :: cs) w') := by
 refine step_lone_go ?_
 rw [stepGR_op ho hw]
 simp [stepG.apply, hr, Frame.atR]
theorem step_op_recover_none (ho : ops[i]? = some o) (hw : Region.wanted o (yielded ops a.tmps) = true) (hro : b.roundOf = none) (hr : (o.semAt b.roundOf a.eval).run P w = .ok .recover w')
  (ht : tryRecover (b.atR a (.inRegion ops (i :: rest) :: k)) cs = none) :
  step P (lone (b.atR a (.inRegion ops (i :: rest) :: k)) cs w) = .next (lone (b.atR (a.put o.dst .nilIface) (.inRegion ops rest :: k)) cs w') := by
 rw [← fin_at ho]
 refine step_lone_go ?_
 rw [stepGR_op ho hw]
 simp only [Frame.atR, hro] at ht hr ⊢
 simp [stepG.apply, hr, ht]
theorem step_op_recover_some {v : Value} {cs' : List Frame} (ho : ops[i]? = some o) (hw : Region.wanted o (yielded ops a.tmps) = true) (hro : b.roundOf = none) (hr : (o.semAt b.roundOf a.eval).run P w = .ok .recover w')
  (ht : tryRecover (b.atR a (.inRegion ops (i :: rest) :: k)) cs = some (v, cs')) :
  step P (lone (b.atR a (.inRegion ops (i :: rest) :: k)) cs w) = .next (lone (b.atR (a.put o.dst v) (.inRegion ops rest :: k)) cs' w') := by
 rw [← fin_at ho]
 refine step_lone_go ?_
 rw [stepGR_op ho hw]
 simp only [Frame.atR, hro] at ht hr ⊢
 simp [stepG.apply, hr, ht]
end
inductive Ctx where
 | nrm (cs : List Frame)
 | dfr (c0 : Frame) (rest : List Frame) (u : Value)
def pmode (u : Value) : Pan → FrameMode
 | .no => .returning
 | .pan _ => .panicking [{ v := u, recovered := false }]
 | .got _ => .panicking [{ v := u, recovered := true }]
def Ctx.cs : Ctx → Pan → List Frame
 | .nrm cs, _ => cs
 | .dfr c0 rest u, p => { c0 with mode := pmode u p } :: rest
def Ctx.kind : Ctx → CallKind
 | .nrm _ => .normal
 | .dfr _ _ _ => .deferred
def PanOk (g : Gh) : Ctx → Pan → Prop
 | .nrm _, .no => True
 | .nrm _, _ => False
 | .dfr _ _ _, .no => True
 | .dfr _ _ u, .pan v | .dfr _ _ u, .got v => Rep g v u
def DefOk (g : Gh) : Def → Deferred → Prop
 | .call fv args, d => ∃ (vf : Value) (vs : Array Value), Rep g fv vf ∧ RepL g args vs.toList ∧ Deferred.ofValue vf vs = pure d
 | .mark a, d => ∃ B, g.mu a = some B ∧ d = { target := .collected B, args := #[] }
def DefsOk (g : Gh) : List Def → List Deferred → Prop
 | [], ds => ds = []
 | x :: xs, ds => ∃ d r, ds = d :: r ∧ DefOk g x d ∧ DefsOk g xs r
theorem DefOk.mono {g g' : Gh} (h : g.le g') {x : Def} {d : Deferred} (r : DefOk g x d) : DefOk g' x d := by
 cases x with
 | call fv args => obtain ⟨vf, vs, h1, h2, h3⟩ := r; exact ⟨vf, vs, h1.mono h, RepL.mono h _ _ h2, h3⟩
 | mark a => obtain ⟨B, h1, h2⟩ := r; exact ⟨B, h.mu _ _ h1, h2⟩
theorem DefsOk.mono {g g' : Gh} (h : g.le g') : ∀ {xs : List Def} {ds : List Deferred}, DefsOk g xs ds → DefsOk g' xs ds
 | [], _, r => r
 | _ :: _, _, ⟨d, r, h1, h2, h3⟩ => ⟨d, r, h1, h2.mono h, DefsOk.mono h h3⟩
theorem PanOk.mono {g g' : Gh} (h : g.le g') {K : Ctx} {p : Pan} (r : PanOk g K p) : PanOk g' K p := by
 cases K <;> cases p <;> simp only [PanOk] at r ⊢ <;> exact r.mono h
def RoOk (g : Gh) (ro : Option Nat) (b : Frame) : Prop :=
 match ro with
 | none => b.roundOf = none
 | some l => ∃ B, g.mu l = some B ∧ b.roundOf = some B
theorem RoOk.mono {g g' : Gh} (h : g.le g') {ro : Option Nat} {b : Frame} (r : RoOk g ro b) : RoOk g' ro b := by
 cases ro with
 | none => exact r
 | some l => obtain ⟨B, h1, h2⟩ := r; exact ⟨B, h.mu _ _ h1, h2⟩
structure StRel (c : Cfg) (g : Gh) (n0 : Nat) (K : Ctx) (b : Frame) (s : St) (a : Act) (w : World) : Prop where
 t : RepL g s.t a.tmps.toList
 inv : Inv g n0 s.h w
 glob : GlobOk c g
 d : DefsOk g s.d a.defers
 p : PanOk g K s.p
 ro : RoOk g s.ro b
 kind : b.kind = K.kind
variable {P : Program} {b : Frame} {a : Act} {k : List Item} {cs : List Frame} {w w' : World}
def Arr (P : Program) (g : Gh) (m : Machine) (b : Frame) (k : List Item) (cs : List Frame) : Ax → Act → World → Prop
 | .normal, a, w => Steps P m (lone (b.atR a k) cs w)
 | .exit id, a, w => ∃ k1, exitTo id k1 = exitTo id k ∧ Steps P m (lone (b.atR a (.code (.exit id) :: k1)) cs w)
 | .ret, a, w => ∃ k1, Steps P m (lone (b.atR a (.code .ret :: k1)) cs w)
 | .panic v, a, w => ∃ todo u, Rep g v u ∧ Steps P m (lone { b.atR a todo with mode := .panicking [{ v := u, recovered := false }] } cs w)
theorem Arr.of_steps {g : Gh} {m m1 : Machine} {ax : Ax} (h : Steps P m m1) (r : Arr P g m1 b k cs ax a w) : Arr P g m b k cs ax a w := by
 cases ax with
 | normal => exact h.trans r
 | exit id => obtain ⟨k1, h1, h2⟩ := r; exact ⟨k1, h1, h.trans h2⟩
 | ret => obtain ⟨k1, h2⟩ := r; exact ⟨k1, h.trans h2⟩
 | panic v => obtain ⟨t, u, h1, h2⟩ := r; exact ⟨t, u, h1, h.trans h2⟩
theorem Arr.pass {g : Gh} {m : Machine} {x : Item} {ax : Ax} (hx : x.plain = true) (hn : ax ≠ .normal) (r : Arr P g m b (x :: k) cs ax a w) : Arr P g m b k cs ax a w := by
 cases ax with
 | normal => exact absurd rfl hn
 | exit id =>
  obtain ⟨k1, h1, h2⟩ := r
  refine ⟨k1, ?_, h2⟩
  rw [h1]
  cases x <;> simp_all [exitTo, Item.plain]
 | ret => exact r
 | panic v => exact r
def ESim (c : Cfg) (E : ExecF) : Prop :=
 ∀ (code : Code) (s : St) (ax : Ax) (s' : St), E code s = some (ax, s') → ∀ (g : Gh) (n0 : Nat) (K : Ctx) (b : Frame) (a : Act) (w : World) (k : List Item), StRel c g n0 K b s a w →
  ∃ g' a' w', Good n0 g w g' w' ∧ StRel c g' n0 K b s' a' w' ∧ Arr c.P g' (lone (b.atR a (.code code :: k)) (K.cs s.p) w) b k (K.cs s'.p) ax a' w'
def Back (P : Program) (g : Gh) (m : Machine) (fr : Frame) (cs : List Frame) (w : World) : CRes → Prop
 | .ret v => ∃ u, Rep g v u ∧ Steps P m (lone (fr.finish u) cs w)
 | .panic v => ∃ u, Rep g v u ∧ Steps P m (lone (fr.raise [{ v := u, recovered := false }]) cs w)
def CSim (c : Cfg) (C : CallF) : Prop :=
 ∀ (fv : V) (args : List V) (h : Heap) (r : CRes) (h' : Heap), C fv args h = some (r, h') → ∀ (g : Gh) (n0 : Nat) (w : World) (vf : Value) (vs : Array Value), Inv g n0 h w → GlobOk c g → Rep g fv vf → RepL g args vs.toList →
  (∃ f ar, (do let d ← Deferred.ofValue vf vs; invoke d.target d.args : Sem Next).run c.P w = .ok (.enter f ar) w ∧
   ∀ fr cs, ∃ g' w', Good n0 g w g' w' ∧ Inv g' n0 h' w' ∧ Back c.P g' (lone (Frame.enter c.P f ar .normal) (fr :: cs) w) fr cs w' r) ∨
  (∃ l f tm as bo, (do let d ← Deferred.ofValue vf vs; invoke d.target d.args : Sem Next).run c.P w = .ok (.round l f tm as bo) w ∧
   ∀ fr cs, ∃ g' w', Good n0 g w g' w' ∧ Inv g' n0 h' w' ∧ Back c.P g' (lone (Frame.round l f tm as bo .normal) (fr :: cs) w) fr cs w' r)
theorem put_tmps (a : Act) (dst : Option Tmp) (v : Value) : (a.put dst v).tmps.toList = (match dst with | some d => a.tmps.toList.set d v | none => a.tmps.toList) := by
 cases dst <;> simp [Act.put]
theorem put_defers (a : Act) (dst : Option Tmp) (v : Value) : (a.put dst v).defers = a.defers := by cases dst <;> rfl
theorem putT_rep {g : Gh} {t : List V} {a : Act} (ht : RepL g t a.tmps.toList) (dst : Option Tmp) {x : V} {v : Value} (hx : Rep g x v) : RepL g (putT t dst x) (a.put dst v).tmps.toList := by
 rw [put_tmps]
 cases dst with
 | none => exact ht
 | some d => exact ht.set hx
theorem StRel.put {c : Cfg} {g g' : Gh} {n0 : Nat} {K : Ctx} {s : St} (h : StRel c g n0 K b s a w) (hle : g.le g') {h' : Heap} (hI : Inv g' n0 h' w') (dst : Option Tmp) {x : V} {v : Value} (hx : Rep g' x v) :
  StRel c g' n0 K b { s with t := putT s.t dst x, h := h' } (a.put dst v) w' :=
 ⟨putT_rep (RepL.mono hle _ _ h.t) dst hx, hI, h.glob.mono hle, by rw [put_defers]; exact h.d.mono hle, h.p.mono hle, h.ro.mono hle, h.kind⟩
end Go.Ab
namespace Go.Ab
open Go.RowKit (Below)
theorem wantedV_ok {g : Gh} {t : List V} {a : Act} (ht : RepL g t a.tmps.toList) {ops : Array Oper} {o : Oper} {r : Bool} (h : wantedV ops o t = some r) : Region.wanted o (yielded ops a.tmps) = r := by
 unfold wantedV at h
 unfold Region.wanted
 cases hg : o.guard with
 | none => simp only [hg, Option.some.injEq] at h; exact h
 | some jw =>
  obtain ⟨j, want⟩ := jw
  simp only [hg] at h ⊢
  cases ho : ops[j]? with
  | none => simp [ho] at h
  | some gop =>
   simp only [ho] at h
   cases hd : gop.dst with
   | none => simp [hd] at h
   | some d =>
    simp only [hd] at h
    cases hx : t[d]? with
    | none => simp [hx] at h
    | some x =>
     obtain ⟨v, hv, hr⟩ := ht.get hx
     have hv' : a.tmps[d]? = some v := by simpa using hv
     have hy : yielded ops a.tmps j = (match v with | .bool b => some b | _ => none) := by
      simp only [yielded, ho, Option.bind_some, hd, hv']
      cases v <;> rfl
     rw [hy]
     simp only [hx] at h
     cases x with
     | bool b =>
      simp only [Option.some.injEq] at h
      have := rep_bool hr
      subst this
      simp only [← h]
      cases b <;> cases want <;> rfl
     | undef => simp at h
     | _ =>
      simp only [Option.some.injEq] at h
      subst h
      simp only [Rep] at hr
      first
       | (subst hr; rfl)
       | (obtain ⟨_, _, rfl, _⟩ := hr; rfl)
       | (obtain ⟨_, rfl, _⟩ := hr; rfl)
       | (obtain ⟨_, _, rfl⟩ := hr; rfl)
       | (obtain ⟨_, _, _, rfl, _⟩ := hr; rfl)
theorem roundOf_none {g : Gh} {s : St} {b : Frame} (h : RoOk g s.ro b) (hs : s.ro.isSome = false) : b.roundOf = none := by
 cases hr : s.ro with
 | none => rw [hr] at h; exact h
 | some l => rw [hr] at hs; simp at hs
set_option maxHeartbeats 1000000 in
theorem execOps_sim {c : Cfg} {C : CallF} (hC : CSim c C) (q : Bool) (ops : Array Oper) : ∀ (l : List Nat) (s : St) (ax : Ax) (s' : St), execOps c C q ops l s = some (ax, s') →
  ∀ (g : Gh) (n0 : Nat) (K : Ctx) (b : Frame) (a : Act) (w : World) (k : List Item), StRel c g n0 K b s a w →
  ∃ g' a' w', Good n0 g w g' w' ∧ StRel c g' n0 K b s' a' w' ∧ Arr c.P g' (lone (b.atR a (.inRegion ops l :: k)) (K.cs s.p) w) b k (K.cs s'.p) ax a' w'
 | [], s, ax, s', h, g, n0, K, b, a, w, k, hr => by
  simp only [execOps, Option.some.injEq, Prod.mk.injEq] at h
  obtain ⟨rfl, rfl⟩ := h
  exact ⟨g, a, w, Good.refl _ _ _, hr, .one stepR_region_end⟩
 | i :: l, s, ax, s', h, g, n0, K, b, a, w, k, hr => by
  simp only [execOps] at h
  cases ho : ops[i]? with
  | none => simp [ho] at h
  | some o =>
   simp only [ho] at h
   have go : ∀ (g1 : Gh) (w1 : World) (s1 : St) (a1 : Act), Good n0 g w g1 w1 → StRel c g1 n0 K b s1 a1 w1 → execOps c C q ops l s1 = some (ax, s') →
     step c.P (lone (b.atR a (.inRegion ops (i :: l) :: k)) (K.cs s.p) w) = .next (lone (b.atR a1 (.inRegion ops l :: k)) (K.cs s1.p) w1) →
     ∃ g' a' w', Good n0 g w g' w' ∧ StRel c g' n0 K b s' a' w' ∧ Arr c.P g' (lone (b.atR a (.inRegion ops (i :: l) :: k)) (K.cs s.p) w) b k (K.cs s'.p) ax a' w' := by
    intro g1 w1 s1 a1 hgood hr1 hex hst
    obtain ⟨g', a', w', e1, e2, e3⟩ := execOps_sim hC q ops l s1 ax s' hex g1 n0 K b a1 w1 k hr1
    exact ⟨g', a', w', hgood.trans e1, e2, .of_steps (.one hst) e3⟩
   cases hw : wantedV ops o s.t with
   | none => simp [hw] at h
   | some wb =>
    have hwant := wantedV_ok hr.t hw
    cases wb with
    | false =>
     simp only [hw] at h
     refine go g w _ (a.put o.dst Go.undef) (Good.refl _ _ _) (hr.put (.refl g) hr.inv o.dst Rep.tuple0) h ?_
     have := stepR_op_skip (P := c.P) (b := b) (a := a) (k := k) (cs := K.cs s.p) (w := w) (ops := ops) (i := i) (rest := l) (by simp [ho, hwant])
     simp only [ho, Option.bind_some] at this
     exact this
    | true =>
     simp only [hw] at h
     cases hop : opR c s.h (evT c s.t) o with
     | none => simp [hop] at h
     | some r =>
      have hrun := opR_run (w := w) (a := a) hop hr.inv hr.glob hr.t
      have hnd := opR_defer hop
      have hsem : (∀ d, r ≠ .dfr d) → o.semAt b.roundOf a.eval = execOp a.eval o := fun hd => Oper.semAt_eq _ _ _ (hnd hd)
      simp only [hop] at h
      cases r with
      | val v h' =>
       simp only at h
       obtain ⟨g', w', u, r1, r2, r3, r4⟩ := hrun
       refine go g' w' _ (a.put o.dst u) r2 (hr.put r2.le r3 o.dst r4) h ?_
       exact step_op_value ho hwant (by rw [hsem (by simp)]; exact r1)
      | skip h' =>
       simp only at h
       obtain ⟨g', w', r1, r2, r3⟩ := hrun
       refine go g' w' _ (a.put o.dst Go.undef) r2 (hr.put r2.le r3 o.dst Rep.tuple0) h ?_
       exact step_op_skip' ho hwant (by rw [hsem (by simp)]; exact r1)
      | dfr d =>
       simp only at h
       split at h
       ·cases h
       ·rename_i hro
        simp only [Bool.not_eq_true] at hro
        have hb := roundOf_none hr.ro hro
        cases d with
        | mark m => exact hrun.elim
        | call fv args =>
         obtain ⟨d, r1, vf, vs, r2, r3, r4⟩ := hrun
         refine go g w _ ({ a with defers := d :: a.defers }.put o.dst Go.undef) (Good.refl _ _ _) ?_ h ?_
         ·have := hr.put (.refl g) hr.inv o.dst Rep.tuple0
          refine ⟨?_, hr.inv, hr.glob, ?_, hr.p, hr.ro, hr.kind⟩
          ·have := this.t
           rw [put_tmps] at this ⊢
           exact this
          ·rw [put_defers]
           exact ⟨d, a.defers, rfl, ⟨vf, vs, r2, r3, by
            have hf := r2
            unfold Deferred.ofValue at r4 ⊢
            split at r4
            ·simp only [Sem.run_pure, Result.ok.injEq, and_true] at r4; rw [← r4]
            ·simp only [Sem.run_pure, Result.ok.injEq, and_true] at r4; rw [← r4]
            ·simp at r4⟩, hr.d⟩
         ·refine step_op_defer ho hwant ?_
          rw [hb, Oper.semAt_none]; exact r1
      | pan v =>
       simp only at h
       split at h
       ·cases h
       ·simp only [Option.some.injEq, Prod.mk.injEq] at h
        obtain ⟨rfl, rfl⟩ := h
        obtain ⟨u, r1, r2⟩ := hrun
        exact ⟨g, a, w, Good.refl _ _ _, hr, _, u, r2, .one (step_op_panic ho hwant (by rw [hsem (by simp)]; exact r1))⟩
      | recover =>
       simp only at h
       split at h
       ·cases h
       ·rename_i hro
        simp only [Bool.not_eq_true] at hro
        have hb := roundOf_none hr.ro hro
        have hrun' : (o.semAt b.roundOf a.eval).run c.P w = .ok .recover w := by rw [hsem (by simp)]; exact hrun
        have hk := hr.kind
        have hp := hr.p
        split at h
        ·rename_i v hsp
         cases K with
         | nrm cs => rw [hsp] at hp; exact hp.elim
         | dfr c0 rest u =>
          rw [hsp] at hp
          simp only [PanOk] at hp
          simp only [Ctx.kind] at hk
          refine go g w _ (a.put o.dst u) (Good.refl _ _ _) ?_ h ?_
          ·have := hr.put (.refl g) hr.inv o.dst (x := v) hp
           exact ⟨this.t, this.inv, this.glob, this.d, hp, this.ro, hr.kind⟩
          ·refine step_op_recover_some ho hwant hb hrun' ?_
           simp [tryRecover, Frame.atR, hk, Ctx.cs, pmode, hsp]
        ·rename_i hne
         refine go g w _ (a.put o.dst .nilIface) (Good.refl _ _ _) (hr.put (.refl g) hr.inv o.dst (x := .niliface) (by simp [Rep])) h ?_
         refine step_op_recover_none ho hwant hb hrun' ?_
         cases K with
         | nrm cs => simp only [Ctx.kind] at hk; simp [tryRecover, Frame.atR, hk]
         | dfr c0 rest u =>
          simp only [Ctx.kind] at hk
          cases hsp : s.p with
          | pan v => exact absurd hsp (hne v)
          | no => simp [tryRecover, Frame.atR, hk, Ctx.cs, pmode]
          | got v => simp [tryRecover, Frame.atR, hk, Ctx.cs, pmode]
      | call fv args =>
       simp only at h
       split at h
       ·cases h
       ·obtain ⟨vf, vs, r1, r2, r3⟩ := hrun
        have hrun' : (o.semAt b.roundOf a.eval).run c.P w = (do let d ← Deferred.ofValue vf vs; invoke d.target d.args : Sem Next).run c.P w := by rw [hsem (by simp), r3]
        have fin : ∀ (r : CRes) (h' : Heap), C fv args s.h = some (r, h') →
          ∃ g1 w1, Good n0 g w g1 w1 ∧ Inv g1 n0 h' w1 ∧ Back c.P g1 (lone (b.atR a (.inRegion ops (i :: l) :: k)) (K.cs s.p) w) (b.atR a (.inRegion ops (i :: l) :: k)) (K.cs s.p) w1 r := by
         intro r h' hcall
         rcases hC fv args s.h r h' hcall g n0 w vf vs hr.inv hr.glob r1 r2 with ⟨f, ar, e1, e2⟩ | ⟨l', f, tm, as, bo, e1, e2⟩
         ·obtain ⟨g1, w1, q1, q2, q3⟩ := e2 (b.atR a (.inRegion ops (i :: l) :: k)) (K.cs s.p)
          refine ⟨g1, w1, q1, q2, ?_⟩
          have hst := step_op_enter (P := c.P) (b := b) (a := a) (k := k) (cs := K.cs s.p) (rest := l) ho hwant (by rw [hrun', e1])
          cases r with
          | ret v => obtain ⟨u, u1, u2⟩ := q3; exact ⟨u, u1, .head hst u2⟩
          | panic v => obtain ⟨u, u1, u2⟩ := q3; exact ⟨u, u1, .head hst u2⟩
         ·obtain ⟨g1, w1, q1, q2, q3⟩ := e2 (b.atR a (.inRegion ops (i :: l) :: k)) (K.cs s.p)
          refine ⟨g1, w1, q1, q2, ?_⟩
          have hst := step_op_round (P := c.P) (b := b) (a := a) (k := k) (cs := K.cs s.p) (rest := l) ho hwant (by rw [hrun', e1])
          cases r with
          | ret v => obtain ⟨u, u1, u2⟩ := q3; exact ⟨u, u1, .head hst u2⟩
          | panic v => obtain ⟨u, u1, u2⟩ := q3; exact ⟨u, u1, .head hst u2⟩
        split at h
        ·rename_i v h' hcall
         obtain ⟨g1, w1, q1, q2, u, u1, u2⟩ := fin _ _ hcall
         rw [fin_at ho] at u2
         obtain ⟨g', a', w', e1, e2, e3⟩ := execOps_sim hC q ops l _ ax s' h g1 n0 K b (a.put o.dst u) w1 k (hr.put q1.le q2 o.dst u1)
         exact ⟨g', a', w', q1.trans e1, e2, .of_steps u2 e3⟩
        ·rename_i v h' hcall
         split at h
         ·cases h
         ·simp only [Option.some.injEq, Prod.mk.injEq] at h
          obtain ⟨rfl, rfl⟩ := h
          obtain ⟨g1, w1, q1, q2, u, u1, u2⟩ := fin _ _ hcall
          rw [Frame.raise_atR] at u2
          exact ⟨g1, a, w1, q1, ⟨RepL.mono q1.le _ _ hr.t, q2, hr.glob.mono q1.le, hr.d.mono q1.le, hr.p.mono q1.le, hr.ro.mono q1.le, hr.kind⟩, _, u, u1, u2⟩
        ·cases h
end Go.Ab
namespace Go.Ab
open Go.RowKit (Below)
section
variable {P : Program} {g : Gh} {n0 : Nat} {H : Heap} {w : World}
theorem makeSliceV_raw {t : TypeId} {l c y : V} {H' : Heap} (h : makeSliceV P H t false false l c = some (y, H')) {vl vc : Value} (rl : Rep g l vl) (rc : Rep g c vc) (w : World) :
  ∃ (n sz : Nat) (arr : Array Value) (e : TypeId) (zcs : List V), y = .slice H.bs.length 0 n sz ∧ H' = newB H (.cells zcs) ∧ (Instr.makeSlice t vl vc).run P w = .ok (.slice (some ⟨w.heap.size, 0, none⟩) n n) (w.alloc (.cells arr e)) ∧
   (∀ g2, RepL g2 zcs arr.toList) ∧ (∀ x ∈ zcs, V.one x = true) ∧ n * sz = zcs.length := by
 unfold makeSliceV at h
 split at h
 ·rename_i e l' c' he hl hc
  split at h
  ·rename_i i z hi hz
   split at h
   ·rename_i hcond
    obtain ⟨h1, h2, h3, h4⟩ := hcond
    obtain ⟨i', zv, hi', hzv, hr, hz1, hzl, hzs⟩ := zeroCs_run hz g
    rw [hi] at hi'
    simp only [Option.some.injEq] at hi'
    subst hi'
    have hu := run_underlying_slice he
    obtain ⟨kl, rfl⟩ : ∃ k, l = .int k l' := by
     cases l <;> simp [intOf?] at hl
     exact ⟨_, by rw [hl]⟩
    obtain ⟨kc, rfl⟩ : ∃ k, c = .int k c' := by
     cases c <;> simp [intOf?] at hc
     exact ⟨_, by rw [hc]⟩
    have e1 := rep_int rl
    have e2 := rep_int rc
    subst e1; subst e2
    clear hl hc rl rc
    obtain ⟨l, hll⟩ : ∃ l, l = l' := ⟨_, rfl⟩
    obtain ⟨c, hcc⟩ : ∃ c, c = c' := ⟨_, rfl⟩
    subst hll; subst hcc
    simp only [smallRow, Bool.and_eq_true, decide_eq_true_eq] at h3
    have wl : IntKind.i64.wrap l = l := IntWalk.i64_in _ (by omega)
    have wc : IntKind.i64.wrap c = c := IntWalk.i64_in _ (by omega)
    have hby : c.toNat * i.bytes ≤ 140737488355328 := by
     have := Nat.mul_le_mul h3.1 h3.2; omega
    have hbyi : (i.bytes : Int) * c ≤ 281474976710656 := by
     have e1 : (c : Int) = (c.toNat : Int) := by omega
     rw [e1, Int.mul_comm]
     have : ((c.toNat * i.bytes : Nat) : Int) ≤ ((140737488355328 : Nat) : Int) := Int.ofNat_le.2 hby
     rw [Int.natCast_mul] at this
     omega
    have h248 : (2 : Int) ^ 48 = 281474976710656 := by simp
    have e0 : ∀ f : Nat → Value, (Array.range 0).map f = #[] := fun f => by simp
    have hcells : ∀ n, (do
      let zero ← if n = 0 then (pure #[] : Sem (Array Value)) else do pure (← zeroValue e).cells
      let a ← newRow e ((Array.range n).map (zero[· % zero.size]!))
      pure (Value.slice (some a) l.toNat c.toNat)).run P w = .ok (.slice (some ⟨w.heap.size, 0, none⟩) l.toNat c.toNat) (w.alloc (.cells ((Array.range n).map (zv.cells[· % zv.cells.size]!)) e)) := by
     intro n
     by_cases hn : n = 0
     ·subst hn
      simp only [if_true, Sem.run_bind, Sem.run_pure, Result.andThen_ok, newRow, run_newObj_alloc, e0]
     ·simp only [hn, if_false, Sem.run_bind, run_zeroValue hi hzv, Result.andThen_ok, Sem.run_pure, newRow, run_newObj_alloc]
    have hrun : (Instr.makeSlice t (.int kl l) (.int kc c)).run P w = .ok (.slice (some ⟨w.heap.size, 0, none⟩) l.toNat c.toNat) (w.alloc (.cells ((Array.range (c.toNat * i.size)).map (zv.cells[· % zv.cells.size]!)) e)) := by
     rw [← hcells]
     simp only [Instr.makeSlice, Sem.run_bind, run_underlying hu, Result.andThen_ok, asInt, asIntOf, Sem.run_pure, run_typeInfo hi, wl, wc]
     rw [if_neg (by
      simp only [Bool.or_eq_true, decide_eq_true_eq, not_or, h248]
      refine ⟨⟨⟨by omega, by omega⟩, by omega⟩, by omega⟩)]
     simp only [Sem.run_bind, run_askRoom, Result.andThen_ok, sizeOf, run_typeInfo hi, Sem.run_pure]
    have hfl : ∀ g2, RepL g2 ((List.replicate c.toNat z).flatten) ((Array.range (c.toNat * i.size)).map (zv.cells[· % zv.cells.size]!)).toList := by
     intro g2
     obtain ⟨i2, zv2, hi2, hzv2, hr2, _, _, _⟩ := zeroCs_run hz g2
     rw [hi] at hi2
     simp only [Option.some.injEq] at hi2
     subst hi2
     rw [hzv] at hzv2
     simp only [Option.some.injEq] at hzv2
     subst hzv2
     have := rep_flat hr2 c.toNat
     rw [hzs] at this
     rw [hzs]; exact this
    split at h
    ·rename_i hlc; cases hlc
    ·split at h
     ·rename_i hlc
      simp only [Bool.false_eq_true, if_false, Option.some.injEq, Prod.mk.injEq] at h
      obtain ⟨rfl, rfl⟩ := h
      subst hlc
      refine ⟨l.toNat, i.size, _, e, (List.replicate l.toNat z).flatten, rfl, rfl, hrun, hfl, flat_one hz1 _, ?_⟩
      have := (hfl g).length
      simp at this ⊢
      omega
     ·cases h
   ·cases h
  ·cases h
 ·cases h
theorem Inv.fillBlk (h : Inv g n0 H w) {a : Nat} (ha : H.bs[a]? = some .res) (o : Obj) (b : Blk) (c : Nat)
  (hb : BlkRel (g.addB a w.heap.size c) (w.alloc o) a w.heap.size b) (hres : b.isRes = false := by rfl) :
  Inv (g.addB a w.heap.size c) n0 { H with bs := H.bs.set a b } (w.alloc o) ∧ Good n0 g w (g.addB a w.heap.size c) (w.alloc o) ∧ (g.addB a w.heap.size c).mu a = some w.heap.size := by
 have hmu0 : g.mu a = none := h.blk a _ ha
 have hlt : a < H.bs.length := (List.getElem?_eq_some_iff.1 ha).1
 have hle : g.le (g.addB a w.heap.size c) := Gh.addB_le hmu0
 refine ⟨⟨?_, ?_, ?_, ?_, ?_, ?_, ?_⟩, ⟨hle, fun _ _ _ => rfl, (Below.refl _ _).alloc h.base o⟩, by simp [Gh.addB]⟩
 ·have := h.base; simp; omega
 ·intro B o' v hg
  have hg' : g.G B o' = some v := hg
  rw [World.cell?_alloc_lt w o ⟨B, o', none⟩ (h.lt hg')]
  exact h.agree B o' v hg'
 ·intro x b' hab
  simp only at hab
  rw [List.getElem?_set] at hab
  split at hab
  ·rename_i e
   subst e
   simp only [hlt, if_true, Option.some.injEq] at hab
   subst hab
   exact .of hres ⟨w.heap.size, by simp [Gh.addB], h.base, hb⟩
  ·rename_i hne
   have hne' : x ≠ a := fun e => hne e.symm
   refine (h.blk x b' hab).keep (fun e => by simp [Gh.addB, hne', e]) (fun B h1 h2 h3 => ?_)
   refine ⟨B, by simp [Gh.addB, hne', h1], h2, ?_⟩
   have hB : ∀ {B}, g.be B = some (.blk x) → B < w.heap.size := fun hx => h.own_lt hx
   refine h3.keep h1 hle (fun B hx => Below.heap_alloc w o B (hB hx)) (fun B hx => ?_) (fun _ _ hx => hx)
   have : B ≠ w.heap.size := by have := hB hx; omega
   simp [Gh.addB, this, hx]
 ·intro x hx
  simp only [List.length_set] at hx
  have hne : x ≠ a := by omega
  simp [Gh.addB, hne, h.new x hx]
 ·intro k sz hk
  obtain ⟨t, h1, h2⟩ := h.tok k sz hk
  have hB : t.B < w.heap.size := h.own_lt h2.2.2.1
  refine ⟨t, h1, h2.keep (Below.heap_alloc w o _ hB) ?_ (fun _ x => x)⟩
  have : t.B ≠ w.heap.size := by omega
  simp [Gh.addB, this, h2.2.2.1]
 ·exact h.newt
 ·intro B hB
  simp at hB
  have : B ≠ w.heap.size := by omega
  simp [Gh.addB, this, h.fresh B (by omega)]
theorem fillCells {cs : List V} {vs : Array Value} (e : TypeId) (hI : Inv g n0 H w) {a : Nat} (ha : H.bs[a]? = some .res) (hr : ∀ g2, RepL g2 cs vs.toList) (h1 : ∀ c ∈ cs, V.one c = true) :
  ∃ g', Good n0 g w g' (w.alloc (.cells vs e)) ∧ Inv g' n0 { H with bs := H.bs.set a (.cells cs) } (w.alloc (.cells vs e)) ∧ g'.mu a = some w.heap.size ∧ g'.cp a = vs.size := by
 have hrep := hr (g.addB a w.heap.size vs.size)
 obtain ⟨k1, k2, k3⟩ := hI.fillBlk ha (.cells vs e) (.cells cs) vs.size (by
  refine ⟨by simp [Gh.addB], fun o => hI.noG (Nat.le_refl _) o, vs, e, (0, 0), World.alloc_heap_new _ _, by have := hrep.length; simp at this; omega, fun j x hx => ?_, fun j _ => by simp,
   by have := hrep.length; simp [Gh.addB] at this ⊢; omega, by simp [Gh.addB], fun j _ => by simp⟩
  obtain ⟨v, hv, hrv⟩ := hrep.get hx
  exact ⟨h1 x (List.mem_of_getElem? hx), v, by simpa using hv, hrv⟩)
 exact ⟨_, k2, k1, k3, by simp [Gh.addB]⟩
end
theorem layR_run {c : Cfg} {g : Gh} {n0 : Nat} {H : Heap} {w : World} {t : List V} {a : Act} {o : Oper} {n : Nat} {v : V} {cs : List V} (h : layR c (evT c t) o n = some (v, cs)) (hI : Inv g n0 H w) (hg : GlobOk c g) (ht : RepL g t a.tmps.toList) (hn : H.bs[n]? = some .res) :
  ∃ g' w' u, (execOp a.eval o).run c.P w = .ok (.value u) w' ∧ Good n0 g w g' w' ∧ Inv g' n0 { H with bs := H.bs.set n (.cells cs) } w' ∧ Rep g' v u := by
 unfold layR at h
 split at h
 ·rename_i e ho
  simp only [Option.map_eq_some_iff, Prod.mk.injEq] at h
  obtain ⟨z, hz, rfl, rfl⟩ := h
  obtain ⟨i, zv, hi, hzv, hr, h1, hzl, hzs⟩ := zeroCs_run hz g
  have hr2 : ∀ g2, RepL g2 z zv.cells.toList := by
   intro g2
   obtain ⟨i2, zv2, hi2, hzv2, hr2, _, _, _⟩ := zeroCs_run hz g2
   rw [hi] at hi2
   simp only [Option.some.injEq] at hi2
   subst hi2
   rw [hzv] at hzv2
   simp only [Option.some.injEq] at hzv2
   subst hzv2
   exact hr2
  obtain ⟨g', k1, k2, k3, _⟩ := fillCells e hI hn hr2 h1
  exact ⟨g', _, .pointer (some ⟨w.heap.size, 0, none⟩), by simp [execOp, ho, Instr.alloc, run_zeroValue hi hzv, newVar, newRow], k1, k2, by simp only [Rep]; exact ⟨_, k3, rfl⟩⟩
 ·rename_i t l cc ho
  split at h
  ·rename_i b0 o0 m sz cs' ts hm
   simp only [Option.some.injEq, Prod.mk.injEq] at h
   obtain ⟨rfl, rfl⟩ := h
   obtain ⟨n', sz', arr, e, zcs, e1, e2, e3, e4, e5, e6⟩ := makeSliceV_raw hm (ev_rep hg ht l) (ev_rep hg ht cc) w
   simp only [List.length_nil, V.slice.injEq] at e1
   obtain ⟨_, _, rfl, rfl⟩ := e1
   simp only [newB, List.nil_append, Heap.mk.injEq, List.cons.injEq, Blk.cells.injEq, and_true] at e2
   obtain ⟨rfl, _⟩ := e2
   obtain ⟨g', k1, k2, k3, k4⟩ := fillCells e hI hn e4 e5
   refine ⟨g', _, .slice (some ⟨w.heap.size, 0, none⟩) m m, by simp [execOp, ho, e3], k1, k2, ?_⟩
   simp only [Rep]
   refine ⟨_, _, k3, rfl, Nat.le_refl _, ?_⟩
   have := (e4 g).length
   simp at this
   omega
  ·cases h
 ·cases h
set_option maxHeartbeats 1000000 in
theorem runR_sim {c : Cfg} (ops : Array Oper) (base : Nat) : ∀ (l : List Nat) (s s' : St), runR c ops base l s = some s' →
  ∀ (g : Gh) (n0 : Nat) (K : Ctx) (b : Frame) (a : Act) (w : World) (k : List Item), StRel c g n0 K b s a w →
  ∃ g' a' w', Good n0 g w g' w' ∧ StRel c g' n0 K b s' a' w' ∧ Arr c.P g' (lone (b.atR a (.inRegion ops l :: k)) (K.cs s.p) w) b k (K.cs s'.p) .normal a' w'
 | [], s, s', h, g, n0, K, b, a, w, k, hr => by
  simp only [runR, Option.some.injEq] at h
  subst h
  exact ⟨g, a, w, Good.refl _ _ _, hr, .one stepR_region_end⟩
 | i :: l, s, s', h, g, n0, K, b, a, w, k, hr => by
  simp only [runR] at h
  have go : ∀ (g1 : Gh) (w1 : World) (s1 : St) (a1 : Act), Good n0 g w g1 w1 → StRel c g1 n0 K b s1 a1 w1 → runR c ops base l s1 = some s' →
    step c.P (lone (b.atR a (.inRegion ops (i :: l) :: k)) (K.cs s.p) w) = .next (lone (b.atR a1 (.inRegion ops l :: k)) (K.cs s1.p) w1) →
    ∃ g' a' w', Good n0 g w g' w' ∧ StRel c g' n0 K b s' a' w' ∧ Arr c.P g' (lone (b.atR a (.inRegion ops (i :: l) :: k)) (K.cs s.p) w) b k (K.cs s'.p) .normal a' w' := by
   intro g1 w1 s1 a1 hgood hr1 hex hst
   obtain ⟨g', a', w', e1, e2, e3⟩ := runR_sim ops base l s1 s' hex g1 n0 K b a1 w1 k hr1
   exact ⟨g', a', w', hgood.trans e1, e2, .of_steps (.one hst) e3⟩
  split at h
  ·rename_i s1 hs1
   unfold stepR at hs1
   cases ho : ops[i]? with
   | none => simp [ho] at hs1
   | some o =>
    simp only [ho] at hs1
    split at hs1
    ·cases hs1
    ·rename_i hgd
     have hgn : o.guard = none := by cases hgg : o.guard <;> simp_all
     have hwant : Region.wanted o (yielded ops a.tmps) = true := wantedV_ok hr.t (by simp [wantedV, hgn])
     split at hs1
     ·split at hs1
      ·rename_i v cs hl hbl
       simp only [Option.some.injEq] at hs1
       subst hs1
       have hnd : ∀ cl, o.op ≠ .defer cl := by
        intro cl e
        unfold layR at hl
        rw [e] at hl
        simp at hl
       obtain ⟨g', w', u, r1, r2, r3, r4⟩ := layR_run (a := a) hl hr.inv hr.glob hr.t hbl
       refine go g' w' _ (a.put o.dst u) r2 (hr.put r2.le r3 o.dst r4) h ?_
       exact step_op_value ho hwant (by rw [Oper.semAt_eq _ _ _ hnd]; exact r1)
      ·cases hs1
     ·split at hs1
      ·rename_i v h' hop
       simp only [Option.some.injEq] at hs1
       subst hs1
       have hrun := opR_run (w := w) (a := a) hop hr.inv hr.glob hr.t
       have hnd := opR_defer hop (fun d => by simp)
       obtain ⟨g', w', u, r1, r2, r3, r4⟩ := hrun
       refine go g' w' _ (a.put o.dst u) r2 (hr.put r2.le r3 o.dst r4) h ?_
       exact step_op_value ho hwant (by rw [Oper.semAt_eq _ _ _ hnd]; exact r1)
      ·rename_i h' hop
       simp only [Option.some.injEq] at hs1
       subst hs1
       have hrun := opR_run (w := w) (a := a) hop hr.inv hr.glob hr.t
       have hnd := opR_defer hop (fun d => by simp)
       obtain ⟨g', w', r1, r2, r3⟩ := hrun
       refine go g' w' _ (a.put o.dst Go.undef) r2 (hr.put r2.le r3 o.dst Rep.tuple0) h ?_
       exact step_op_skip' ho hwant (by rw [Oper.semAt_eq _ _ _ hnd]; exact r1)
      ·cases hs1
  ·cases h
theorem Inv.keepRes {g : Gh} {n0 : Nat} {H : Heap} {w : World} (h : Inv g n0 H w) (k : Nat) : Inv g n0 { H with bs := H.bs ++ List.replicate k .res } w := by
 refine ⟨h.base, h.agree, fun a b hab => ?_, fun a ha => h.new a (by simp at ha; omega), h.tok, h.newt, h.fresh⟩
 simp only at hab
 rw [List.getElem?_append] at hab
 split at hab
 ·exact h.blk a b hab
 ·rename_i hl
  rw [List.getElem?_replicate] at hab
  split at hab
  ·simp only [Option.some.injEq] at hab
   subst hab
   exact h.new a (by omega)
  ·cases hab
theorem reserveR_rel {c : Cfg} {ops : Array Oper} {g : Gh} {n0 : Nat} {K : Ctx} {b : Frame} {s : St} {a : Act} {w : World} (h : StRel c g n0 K b s a w) : StRel c g n0 K b (reserveR c ops s) a w :=
 ⟨h.t, h.inv.keepRes _, h.glob, h.d, h.p, h.ro, h.kind⟩
theorem semRun2_cases {c : Cfg} {C : CallF} {ops : Array Oper} {s : St} {r : Ax × St} (h : semRun2 c C ops s = some r) :
  (∃ r', SemOkR c ops s r' ∧ hasR c ops = true ∧ r = (.normal, r')) ∨ (hasR c ops = false ∧ semRun c C ops s = some r) := by
 unfold semRun2 at h
 split at h
 ·rename_i hh
  simp only [Option.some.injEq] at h
  exact .inl ⟨_, hh.2.choose_spec, hh.1, h.symm⟩
 ·split at h
  ·cases h
  ·rename_i hn
   exact .inr ⟨by simpa using hn, h⟩
theorem semRun2_no {c : Cfg} {C : CallF} {ops : Array Oper} {s : St} (h : hasR c ops = false) : semRun2 c C ops s = semRun c C ops s := by
 unfold semRun2
 rw [dif_neg (fun x => by rw [h] at x; cases x.1), if_neg (by rw [h]; simp)]
theorem semRun2_yes {c : Cfg} {C : CallF} {ops : Array Oper} {s r : St} (h : hasR c ops = true) (hr : SemOkR c ops s r) (hne : ∃ l, l ∈ ordersG ops ops.size (Array.replicate ops.size false)) : semRun2 c C ops s = some (.normal, r) := by
 unfold semRun2
 have hh : hasR c ops = true ∧ ∃ r, SemOkR c ops s r := ⟨h, r, hr⟩
 rw [dif_pos hh]
 obtain ⟨l, hl⟩ := hne
 have h1 := hh.2.choose_spec l hl
 rw [hr l hl] at h1
 simp only [Option.some.injEq] at h1
 rw [← h1]
end Go.Ab
namespace Go.Ab
open Go.RowKit (Below)
section
variable {P : Program} {b : Frame} {a : Act} {k : List Item} {cs : List Frame} {w : World}
theorem step_rf_enter {g : Operand} {ps : Array Tmp} {assign body : Code} {l : Nat} {mark : List Deferred} {w₁ w₂ : World} {f : FuncId} {args : Array Value}
  (he : (Instr.enterLoop b.fn a.tmps ps assign body b.roundOf).run P w = .ok (l, mark) w₁)
  (hinv : (do let d ← Deferred.ofValue (a.eval g) #[.func (.yield l) #[] #[]]; invoke d.target d.args : Sem Next).run P w₁ = .ok (.enter f args) w₂) :
  step P (lone (b.atR a (.code (.rangeFunc g ps assign body) :: k)) cs w) =
   .next (lone (Frame.enter P f args .normal) (b.atR { a with defers := mark ++ a.defers } (.inRangeFunc l :: k) :: cs) w₂) :=
 step_lone_go (by
  have hev := Frame.eval_atR b { a with defers := mark ++ a.defers } (.inRangeFunc l :: k)
  simp only [Frame.atR] at hev
  have hres : ({ tmps := a.tmps, defers := mark ++ a.defers } : Act).eval = a.eval := by funext x; cases x <;> rfl
  have hr : (do let d ← resolve a.eval { callee := .value g, args := #[.const (.func (.yield l) #[] #[])], argTypes := #[] } 0; invoke d.target d.args : Sem Next).run P w₁ = .ok (.enter f args) w₂ := by simpa [resolve, Act.eval] using hinv
  simp only [stepG, stepG.exec, Frame.atR, Sem.runT_eq, he, GStep.bare_after, stepG.apply, hev, hres, hr]
  simp)
theorem step_rf_round {g : Operand} {ps : Array Tmp} {assign body : Code} {l : Nat} {mark : List Deferred} {w₁ w₂ : World} {l' : Nat} {f : FuncId} {tm : Array Value} {as bo : Code}
  (he : (Instr.enterLoop b.fn a.tmps ps assign body b.roundOf).run P w = .ok (l, mark) w₁)
  (hinv : (do let d ← Deferred.ofValue (a.eval g) #[.func (.yield l) #[] #[]]; invoke d.target d.args : Sem Next).run P w₁ = .ok (.round l' f tm as bo) w₂) :
  step P (lone (b.atR a (.code (.rangeFunc g ps assign body) :: k)) cs w) =
   .next (lone (Frame.round l' f tm as bo .normal) (b.atR { a with defers := mark ++ a.defers } (.inRangeFunc l :: k) :: cs) w₂) :=
 step_lone_go (by
  have hev := Frame.eval_atR b { a with defers := mark ++ a.defers } (.inRangeFunc l :: k)
  simp only [Frame.atR] at hev
  have hres : ({ tmps := a.tmps, defers := mark ++ a.defers } : Act).eval = a.eval := by funext x; cases x <;> rfl
  have hr : (do let d ← resolve a.eval { callee := .value g, args := #[.const (.func (.yield l) #[] #[])], argTypes := #[] } 0; invoke d.target d.args : Sem Next).run P w₁ = .ok (.round l' f tm as bo) w₂ := by simpa [resolve, Act.eval] using hinv
  simp only [stepG, stepG.exec, Frame.atR, Sem.runT_eq, he, GStep.bare_after, stepG.apply, hev, hres, hr]
  simp)
end
theorem killT_rep {g : Gh} {vs : List Value} : ∀ (ks : List Nat) (t : List V), RepL g t vs → RepL g (killT ks t) vs
 | [], t, h => h
 | k :: ks, t, h => by
  simp only [killT, List.foldl_cons]
  exact killT_rep ks _ (h.forget k)
def InP (s : St) : Prop := ∀ (i a o : Nat), s.t[i]? = some (V.ptr a o) → a < s.h.bs.length
def RegOk (c : Cfg) (C : CallF) : Prop :=
 ∀ (ops : Array Oper) (s : St) (r : Ax × St) (t : Nat), InP s → (drawOk c ops || drawOkT c ops s.t s.h) = true → execOps c C true ops (List.range ops.size) s = some r →
  execOps c C true ops (Region.schedule (c.P.follows .mixedOrders) ops t) s = some r
def OrdOk (c : Cfg) : Prop := ∀ (ops : Array Oper) (t : Nat), Region.schedule (c.P.follows .mixedOrders) ops t ∈ ordersG ops ops.size (Array.replicate ops.size false)
theorem getLoop_blk {g : Gh} {n0 : Nat} {H : Heap} {w : World} (hI : Inv g n0 H w) {a : Nat} {t : List V} {ps : List Nat} {as bo : Code} {st : LoopState} {pend : Option Code} {db : Nat}
  (h : H.bs[a]? = some (.loop t ps as bo st pend db)) : ∃ B L, g.mu a = some B ∧ n0 ≤ B ∧ g.be B = some (.blk a) ∧ w.heap[B]? = some (.loop L) ∧ RepL g t L.tmps.toList ∧ L.params.toList = ps ∧
   L.assign = as ∧ L.body = bo ∧ L.state = st ∧ L.pending = pend ∧ g.mu db = some L.defers ∧ a < H.bs.length ∧ B < w.heap.size ∧ ∀ o, g.G B o = none := by
 obtain ⟨B, hmu, hn, hbe, L, h1, h2, h3, h4, h5, h6, h7, h8⟩ := hI.blk a _ h
 refine ⟨B, L, hmu, hn, hbe, h1, h2, h3, h4, h5, h6, h7, h8, (List.getElem?_eq_some_iff.1 h).1, hI.own_lt hbe, fun o => ?_⟩
 cases hgo : g.G B o with
 | none => rfl
 | some v => have := hI.agree B o v hgo; simp [World.cell?, h1] at this
theorem Inv.setLoop {g : Gh} {n0 : Nat} {H : Heap} {w : World} (hI : Inv g n0 H w) {a : Nat} {t : List V} {ps : List Nat} {as bo : Code} {st : LoopState} {pend : Option Code} {db : Nat}
  (h : H.bs[a]? = some (.loop t ps as bo st pend db)) {B : Nat} {L : Loop} (hmu : g.mu a = some B) (hL : w.heap[B]? = some (.loop L)) (st' : LoopState) (pend' : Option Code) :
  Inv g n0 { H with bs := H.bs.set a (.loop t ps as bo st' pend' db) } (w.putObj B (.loop { L with state := st', pending := pend' })) ∧ Good n0 g w g (w.putObj B (.loop { L with state := st', pending := pend' })) := by
 obtain ⟨B', L', h1, h2, h3, h4, h5, h6, h7, h8, h9, h10, h11, h12, h13, h14⟩ := getLoop_blk hI h
 rw [hmu] at h1
 simp only [Option.some.injEq] at h1
 subst h1
 rw [hL] at h4
 simp only [Option.some.injEq, Obj.loop.injEq] at h4
 subst h4
 exact hI.updBlk (.loop t ps as bo st' pend' db) h12 hmu h2 h3 h14 (But.putObj w B _) ⟨h3, _, World.putObj_heap_same h13, h5, h6, h7, h8, rfl, rfl, h11⟩
set_option maxHeartbeats 1000000 in
theorem rangeFunc_sim {c : Cfg} {E : ExecF} {C : CallF} (hC : CSim c C) (f : Operand) (ps : Array Tmp) (assign body : Code) (s : St) (ax : Ax) (s' : St)
  (h : execS c E C (.rangeFunc f ps assign body) s = some (ax, s')) (g : Gh) (n0 : Nat) (K : Ctx) (b : Frame) (a : Act) (w : World) (k : List Item) (hr : StRel c g n0 K b s a w) :
  ∃ g' a' w', Good n0 g w g' w' ∧ StRel c g' n0 K b s' a' w' ∧ Arr c.P g' (lone (b.atR a (.code (.rangeFunc f ps assign body) :: k)) (K.cs s.p) w) b k (K.cs s'.p) ax a' w' := by
 have main : ∀ (g1 : Gh) (w1 : World) (h1 : Heap) (db DB : Nat) (mark : List Deferred) (d : List Def), Good n0 g w g1 w1 → Inv g1 n0 h1 w1 → g1.mu db = some DB → DefsOk g1 d (mark ++ a.defers) →
   (∀ (o : Obj), True) →
   (Instr.enterLoop b.fn a.tmps ps assign body b.roundOf).run c.P w = .ok (w1.heap.size, mark) (w1.alloc (.loop { state := .ready, pending := none, fn := b.fn, tmps := a.tmps, params := ps, assign, body, defers := DB })) →
   rangeGo c C s f ps assign body h1 db d = some (ax, s') →
   ∃ g' a' w', Good n0 g w g' w' ∧ StRel c g' n0 K b s' a' w' ∧ Arr c.P g' (lone (b.atR a (.code (.rangeFunc f ps assign body) :: k)) (K.cs s.p) w) b k (K.cs s'.p) ax a' w' := by
  intro g1 w1 h1 db DB mark d hgood hI1 hdb hdefs _ hent hgo
  unfold rangeGo at hgo
  let L0 : Loop := { state := .ready, pending := none, fn := b.fn, tmps := a.tmps, params := ps, assign, body, defers := DB }
  have hle1 := Gh.addB_le (hI1.new _ (Nat.le_refl _)) (B := w1.heap.size) (c := 0)
  obtain ⟨k1, k2, k3⟩ := hI1.newBlk (.loop L0) (.loop s.t ps.toList assign body .ready none db) 0 (by
   refine ⟨by simp [Gh.addB], L0, World.alloc_heap_new _ _, RepL.mono (hgood.le.trans hle1) _ _ hr.t, rfl, rfl, rfl, rfl, rfl, hle1.mu _ _ hdb⟩)
  generalize hg2 : g1.addB h1.bs.length w1.heap.size 0 = g2 at k1 k2 k3 hle1
  have hgood2 := hgood.trans k2
  have hargs : RepL g2 [.yld h1.bs.length] (#[Value.func (.yield w1.heap.size) #[] #[]] : Array Value).toList :=
   RepL.cons (by simp only [Rep]; exact ⟨_, k3, rfl⟩) (RepL.nil _)
  have hfv : Rep g2 (evT c s.t f) (a.eval f) := (ev_rep hr.glob hr.t f).mono hgood2.le
  have call : ∀ (r : CRes) (h' : Heap), C (evT c s.t f) [.yld h1.bs.length] (newB h1 (.loop s.t ps.toList assign body .ready none db)) = some (r, h') →
    ∃ g3 w3, Good n0 g2 (w1.alloc (.loop L0)) g3 w3 ∧ Inv g3 n0 h' w3 ∧
     Back c.P g3 (lone (b.atR a (.code (.rangeFunc f ps assign body) :: k)) (K.cs s.p) w) (b.atR { a with defers := mark ++ a.defers } (.inRangeFunc w1.heap.size :: k)) (K.cs s.p) w3 r := by
   intro r h' hcall
   rcases hC _ _ _ r h' hcall g2 n0 (w1.alloc (.loop L0)) (a.eval f) _ k1 (hr.glob.mono hgood2.le) hfv hargs with ⟨f', ar, e1, e2⟩ | ⟨l', f', tm, as, bo, e1, e2⟩
   ·obtain ⟨g3, w3, q1, q2, q3⟩ := e2 (b.atR { a with defers := mark ++ a.defers } (.inRangeFunc w1.heap.size :: k)) (K.cs s.p)
    refine ⟨g3, w3, q1, q2, ?_⟩
    have hst := step_rf_enter (P := c.P) (b := b) (a := a) (k := k) (cs := K.cs s.p) hent e1
    cases r with
    | ret v => obtain ⟨u, u1, u2⟩ := q3; exact ⟨u, u1, .head hst u2⟩
    | panic v => obtain ⟨u, u1, u2⟩ := q3; exact ⟨u, u1, .head hst u2⟩
   ·obtain ⟨g3, w3, q1, q2, q3⟩ := e2 (b.atR { a with defers := mark ++ a.defers } (.inRangeFunc w1.heap.size :: k)) (K.cs s.p)
    refine ⟨g3, w3, q1, q2, ?_⟩
    have hst := step_rf_round (P := c.P) (b := b) (a := a) (k := k) (cs := K.cs s.p) hent e1
    cases r with
    | ret v => obtain ⟨u, u1, u2⟩ := q3; exact ⟨u, u1, .head hst u2⟩
    | panic v => obtain ⟨u, u1, u2⟩ := q3; exact ⟨u, u1, .head hst u2⟩
  split at hgo
  ·rename_i v h' hcall
   obtain ⟨g3, w3, q1, q2, u, u1, u2⟩ := call _ _ hcall
   split at hgo
   ·rename_i t p as bo st pend db' hbl
    split at hgo
    ·cases hgo
    ·rename_i hnb
     obtain ⟨B, L, m1, m2, m3, m4, m5, m6, m7, m8, m9, m10, m11, m12, m13, m14⟩ := getLoop_blk q2 hbl
     have hB : B = w1.heap.size := by
      have := q1.le.mu _ _ k3
      rw [m1] at this
      simpa using this
     subst hB
     obtain ⟨n1, n2⟩ := q2.setLoop hbl m1 m4 .exhausted pend
     have hend := run_endLoop (P := c.P) m4 (by rw [m9]; exact hnb)
     have hpend : ({ L with state := .exhausted, pending := pend } : Loop) = { L with state := .exhausted } := by rw [← m10]
     rw [hpend] at n1 n2
     have hj : (L.pending.map Item.code).toList = (pend.map Item.code).toList := by rw [m10]
     rw [finish_atR_inRangeFunc] at u2
     have hst := stepR_endRangeFunc (P := c.P) (b := b) (a := { a with defers := mark ++ a.defers }) (k := k) (cs := K.cs s.p) hend
     rw [hj] at hst
     clear hj m10 hpend
     generalize ({ L with state := LoopState.exhausted } : Loop) = L1 at hst n1 n2 hend
     have hg3 := hgood2.trans (q1.trans n2)
     have hle3 := hg3.le
     have hst3 : StRel c g3 n0 K b { s with h := { h' with bs := h'.bs.set h1.bs.length (.loop t p as bo .exhausted pend db') }, d } { a with defers := mark ++ a.defers } (w3.putObj w1.heap.size (.loop L1)) :=
      ⟨RepL.mono hle3 _ _ hr.t, n1, hr.glob.mono hle3, hdefs.mono (hle1.trans q1.le), hr.p.mono hle3, hr.ro.mono hle3, hr.kind⟩
     have hsteps := u2.trans (.one hst)
     simp only at hgo
     split at hgo
     ·simp only [Option.some.injEq, Prod.mk.injEq] at hgo
      obtain ⟨rfl, rfl⟩ := hgo
      exact ⟨g3, _, _, hg3, hst3, by simp only [Arr]; simpa using hsteps⟩
     ·simp only [Option.some.injEq, Prod.mk.injEq] at hgo
      obtain ⟨rfl, rfl⟩ := hgo
      exact ⟨g3, _, _, hg3, hst3, k, by simpa using hsteps⟩
     ·simp only [Option.some.injEq, Prod.mk.injEq] at hgo
      obtain ⟨rfl, rfl⟩ := hgo
      exact ⟨g3, _, _, hg3, hst3, k, rfl, by simpa using hsteps⟩
     ·cases hgo
   ·cases hgo
  ·rename_i v h' hcall
   simp only [Option.some.injEq, Prod.mk.injEq] at hgo
   obtain ⟨rfl, rfl⟩ := hgo
   obtain ⟨g3, w3, q1, q2, u, u1, u2⟩ := call _ _ hcall
   rw [Frame.raise_atR] at u2
   have hg3 := hgood2.trans q1
   exact ⟨g3, { a with defers := mark ++ a.defers }, w3, hg3, ⟨RepL.mono hg3.le _ _ hr.t, q2, hr.glob.mono hg3.le, hdefs.mono (hle1.trans q1.le), hr.p.mono hg3.le, hr.ro.mono hg3.le, hr.kind⟩, _, u, u1, u2⟩
  ·cases hgo
 simp only [execS] at h
 split at h
 ·cases h
 ·cases hro : s.ro with
  | none =>
   simp only [hro] at h
   have hb : b.roundOf = none := by have := hr.ro; rw [hro] at this; exact this
   obtain ⟨k1, k2, k3⟩ := hr.inv.newBlk (.deferred (some [])) (.dfr true) 0 ⟨by simp [Gh.addB], World.alloc_heap_new _ _⟩
   refine main _ (w.alloc (.deferred (some []))) (newB s.h (.dfr true)) s.h.bs.length w.heap.size [{ target := .collected w.heap.size, args := #[] }] (.mark s.h.bs.length :: s.d) k2 k1 k3
    ⟨_, a.defers, rfl, ⟨_, k3, rfl⟩, hr.d.mono k2.le⟩ (fun _ => trivial) ?_ h
   rw [hb]
   have := run_enterLoop_outer (P := c.P) (w := w) b.fn a.tmps ps assign body
   rw [this]
   simp
  | some l =>
   simp only [hro] at h
   split at h
   ·rename_i t0 ps0 as0 bo0 st0 pe0 db hbl
    obtain ⟨B, L, m1, m2, m3, m4, m5, m6, m7, m8, m9, m10, m11, m12, m13, m14⟩ := getLoop_blk hr.inv hbl
    have hb : b.roundOf = some B := by
     have := hr.ro
     rw [hro] at this
     obtain ⟨B', h1, h2⟩ := this
     rw [m1] at h1
     simp only [Option.some.injEq] at h1
     rw [h2, h1]
    refine main g w s.h db L.defers [] s.d (Good.refl _ _ _) hr.inv m11 (by simpa using hr.d) (fun _ => trivial) ?_ h
    rw [hb]
    simp [Instr.enterLoop, run_getLoop m4]
   ·cases h
theorem steps_loop {P : Program} {b : Frame} {a : Act} {k : List Item} {cs : List Frame} {w : World} {x : Code} {m' : Machine} (h : Steps P (lone (b.atR a (.code (.loop x) :: k)) cs w) m')
  (hne : m' ≠ lone (b.atR a (.code (.loop x) :: k)) cs w) : Steps P (lone (b.atR a (.inLoop x :: k)) cs w) m' := by
 obtain ⟨n, hn⟩ := h
 cases n with
 | zero => simp only [runN, Stepped.next.injEq] at hn; exact absurd hn.symm hne
 | succ n =>
  refine ⟨n + 1, ?_⟩
  simp only [runN, stepR_loop] at hn
  simp only [runN, stepR_inLoop]
  exact hn
theorem lone_todo {f1 f2 : Frame} {c1 c2 : List Frame} {w1 w2 : World} (h : lone f1 c1 w1 = lone f2 c2 w2) : f1.todo = f2.todo ∧ f1.mode = f2.mode := by
 have hg := congrArg Machine.gs h
 simp only [lone] at hg
 have := congrArg Array.toList hg
 simp only [List.cons.injEq, Goroutine.mk.injEq, and_true] at this
 exact ⟨by rw [this.1], by rw [this.1]⟩
theorem Arr.loop_of {P : Program} {g : Gh} {b : Frame} {a a' : Act} {k : List Item} {cs cs' : List Frame} {w w' : World} {x : Code} {ax : Ax}
  (h : Arr P g (lone (b.atR a (.code (.loop x) :: k)) cs w) b k cs' ax a' w') : Arr P g (lone (b.atR a (.inLoop x :: k)) cs w) b k cs' ax a' w' := by
 cases ax with
 | normal =>
  refine steps_loop h fun e => ?_
  have := (lone_todo e).1
  simp only [Frame.atR] at this
  exact List.cons_ne_self _ _ this.symm
 | exit id =>
  obtain ⟨k1, h1, h2⟩ := h
  refine ⟨k1, h1, steps_loop h2 fun e => ?_⟩
  have := (lone_todo e).1
  simp [Frame.atR] at this
 | ret =>
  obtain ⟨k1, h2⟩ := h
  refine ⟨k1, steps_loop h2 fun e => ?_⟩
  have := (lone_todo e).1
  simp [Frame.atR] at this
 | panic v =>
  obtain ⟨td, u, h1, h2⟩ := h
  refine ⟨td, u, h1, steps_loop h2 fun e => ?_⟩
  have := (lone_todo e).2
  simp [Frame.atR] at this
theorem stepR_scope {P : Program} {b : Frame} {a : Act} {k : List Item} {cs : List Frame} {w : World} {x : Code} : step P (lone (b.atR a (.code (.scope x) :: k)) cs w) = .next (lone (b.atR a (.code x :: .inScope x :: k)) cs w) :=
 step_lone_go (by simp [stepG, stepG.exec, Frame.atR])
theorem stepR_inScope {P : Program} {b : Frame} {a : Act} {k : List Item} {cs : List Frame} {w : World} {x : Code} : step P (lone (b.atR a (.inScope x :: k)) cs w) = .next (lone (b.atR a k) cs w) :=
 step_lone_go (by simp [stepG, stepG.exec, Frame.atR])
theorem execS_sim {c : Cfg} {E : ExecF} {C : CallF} (hE : ESim c E) (hC : CSim c C) (hR : RegOk c C) (hO : OrdOk c) : ESim c (execS c E C) := by
 intro code s ax s' h g n0 K b a w k hr
 cases code with
 | skip =>
  simp only [execS, Option.some.injEq, Prod.mk.injEq] at h
  obtain ⟨rfl, rfl⟩ := h
  exact ⟨g, a, w, Good.refl _ _ _, hr, .one stepR_skip⟩
 | label l =>
  simp only [execS, Option.some.injEq, Prod.mk.injEq] at h
  obtain ⟨rfl, rfl⟩ := h
  exact ⟨g, a, w, Good.refl _ _ _, hr, .one stepR_label⟩
 | seq x y =>
  simp only [execS] at h
  cases hx : E x s with
  | none => simp [hx] at h
  | some p =>
   obtain ⟨ax1, s1⟩ := p
   obtain ⟨g1, a1, w1, e1, e2, e3⟩ := hE x s ax1 s1 hx g n0 K b a w (.code y :: k) hr
   cases ax1 with
   | normal =>
    simp only [hx] at h
    obtain ⟨g2, a2, w2, f1, f2, f3⟩ := hE y s1 ax s' h g1 n0 K b a1 w1 k e2
    exact ⟨g2, a2, w2, e1.trans f1, f2, .of_steps (.head stepR_seq e3) f3⟩
   | exit id =>
    simp only [hx, Option.some.injEq, Prod.mk.injEq] at h
    obtain ⟨rfl, rfl⟩ := h
    exact ⟨g1, a1, w1, e1, e2, .of_steps (.one stepR_seq) (.pass (x := .code y) rfl (by simp) e3)⟩
   | ret =>
    simp only [hx, Option.some.injEq, Prod.mk.injEq] at h
    obtain ⟨rfl, rfl⟩ := h
    exact ⟨g1, a1, w1, e1, e2, .of_steps (.one stepR_seq) (.pass (x := .code y) rfl (by simp) e3)⟩
   | panic v =>
    simp only [hx, Option.some.injEq, Prod.mk.injEq] at h
    obtain ⟨rfl, rfl⟩ := h
    exact ⟨g1, a1, w1, e1, e2, .of_steps (.one stepR_seq) (.pass (x := .code y) rfl (by simp) e3)⟩
 | cond q x y =>
  simp only [execS] at h
  have hq := ev_rep hr.glob hr.t q
  split at h
  ·rename_i hb
   rw [hb] at hq
   obtain ⟨g1, a1, w1, e1, e2, e3⟩ := hE x s ax s' h g n0 K b a w k hr
   exact ⟨g1, a1, w1, e1, e2, .of_steps (.one (stepR_cond (t := true) (rep_bool hq))) e3⟩
  ·rename_i hb
   rw [hb] at hq
   obtain ⟨g1, a1, w1, e1, e2, e3⟩ := hE y s ax s' h g n0 K b a w k hr
   exact ⟨g1, a1, w1, e1, e2, .of_steps (.one (stepR_cond (t := false) (rep_bool hq))) e3⟩
  ·cases h
 | block id x =>
  simp only [execS] at h
  cases hx : E x s with
  | none => simp [hx] at h
  | some p =>
   obtain ⟨ax1, s1⟩ := p
   obtain ⟨g1, a1, w1, e1, e2, e3⟩ := hE x s ax1 s1 hx g n0 K b a w (.inBlock id :: k) hr
   cases ax1 with
   | normal =>
    simp only [hx, Option.some.injEq, Prod.mk.injEq] at h
    obtain ⟨rfl, rfl⟩ := h
    exact ⟨g1, a1, w1, e1, e2, .head stepR_block (Steps.trans e3 (.one stepR_inBlock))⟩
   | exit id' =>
    simp only [hx] at h
    obtain ⟨k1, f1, f2⟩ := e3
    by_cases hid : id' = id
    ·simp only [hid, if_true, Option.some.injEq, Prod.mk.injEq] at h
     obtain ⟨rfl, rfl⟩ := h
     subst hid
     refine ⟨g1, a1, w1, e1, e2, .head stepR_block (f2.trans (.one (stepR_exit ?_)))⟩
     rw [f1]
     simp [exitTo]
    ·simp only [hid, if_false, Option.some.injEq, Prod.mk.injEq] at h
     obtain ⟨rfl, rfl⟩ := h
     refine ⟨g1, a1, w1, e1, e2, k1, ?_, .head stepR_block f2⟩
     rw [f1]
     have : (id == id') = false := by simp; exact fun e => hid e.symm
     simp [exitTo, this]
   | ret =>
    simp only [hx, Option.some.injEq, Prod.mk.injEq] at h
    obtain ⟨rfl, rfl⟩ := h
    obtain ⟨k1, f2⟩ := e3
    exact ⟨g1, a1, w1, e1, e2, k1, .head stepR_block f2⟩
   | panic v =>
    simp only [hx, Option.some.injEq, Prod.mk.injEq] at h
    obtain ⟨rfl, rfl⟩ := h
    obtain ⟨td, u, f1, f2⟩ := e3
    exact ⟨g1, a1, w1, e1, e2, td, u, f1, .head stepR_block f2⟩
 | loop x =>
  simp only [execS] at h
  have kill : ∀ {g : Gh} {s : St} {a : Act} {w : World}, StRel c g n0 K b s a w → StRel c g n0 K b (killS c x s) a w := by
   intro g s a w hr
   unfold killS
   split
   ·exact ⟨killT_rep _ _ hr.t, hr.inv, hr.glob, hr.d, hr.p, hr.ro, hr.kind⟩
   ·exact hr
  have killp : ∀ s : St, (killS c x s).p = s.p := by intro s; unfold killS; split <;> rfl
  have hr0 := kill hr
  have hp0 := killp s
  generalize killS c x s = s0 at h hr0 hp0
  cases hx : E x s0 with
  | none => simp [hx] at h
  | some p =>
   obtain ⟨ax1, s1⟩ := p
   obtain ⟨g1, a1, w1, e1, e2, e3⟩ := hE x s0 ax1 s1 hx g n0 K b a w (.inLoop x :: k) hr0
   rw [hp0] at e3
   cases ax1 with
   | normal =>
    simp only [hx] at h
    obtain ⟨g2, a2, w2, f1, f2, f3⟩ := hE (.loop x) s1 ax s' h g1 n0 K b a1 w1 k e2
    refine ⟨g2, a2, w2, e1.trans f1, f2, ?_⟩
    exact .of_steps (.head stepR_loop e3) f3.loop_of
   | exit id =>
    simp only [hx, Option.some.injEq, Prod.mk.injEq] at h
    obtain ⟨rfl, rfl⟩ := h
    refine ⟨g1, a1, w1, e1, kill e2, ?_⟩
    rw [killp]
    exact .of_steps (.one stepR_loop) (.pass (x := .inLoop x) rfl (by simp) e3)
   | ret =>
    simp only [hx, Option.some.injEq, Prod.mk.injEq] at h
    obtain ⟨rfl, rfl⟩ := h
    refine ⟨g1, a1, w1, e1, kill e2, ?_⟩
    rw [killp]
    exact .of_steps (.one stepR_loop) (.pass (x := .inLoop x) rfl (by simp) e3)
   | panic v =>
    simp only [hx, Option.some.injEq, Prod.mk.injEq] at h
    obtain ⟨rfl, rfl⟩ := h
    refine ⟨g1, a1, w1, e1, kill e2, ?_⟩
    rw [killp]
    exact .of_steps (.one stepR_loop) (.pass (x := .inLoop x) rfl (by simp) e3)
 | region id ops draw =>
  simp only [execS] at h
  split at h
  ·rename_i hd
   have hdr : draw = true := by
    cases draw with
    | true => rfl
    | false => simp at hd
   subst hdr
   rcases semRun2_cases h with ⟨r', h1, _, h3⟩ | ⟨_, h⟩
   ·cases h3
    obtain ⟨g1, a1, w1, e1, e2, e3⟩ := runR_sim ops _ _ _ _ (h1 _ (hO ops (w.tape w.drawn (.order b.fn id)))) g n0 K b a w.drew k (reserveR_rel ⟨hr.t, hr.inv.drew, hr.glob, hr.d, hr.p, hr.ro, hr.kind⟩)
    exact ⟨g1, a1, w1, (Good.drew n0 g w).trans e1, e2, .of_steps (.one stepR_region_draw) e3⟩
   unfold semRun at h
   split at h
   ·rename_i hs
    obtain ⟨r, h1, h2⟩ := hs _ (hO ops (w.tape w.drawn (.order b.fn id)))
    rw [h2] at h
    simp only [Option.some.injEq] at h
    subst h
    obtain ⟨g1, a1, w1, e1, e2, e3⟩ := execOps_sim hC false ops _ s ax s' h1 g n0 K b a w.drew k ⟨hr.t, hr.inv.drew, hr.glob, hr.d, hr.p, hr.ro, hr.kind⟩
    exact ⟨g1, a1, w1, (Good.drew n0 g w).trans e1, e2, .of_steps (.one stepR_region_draw) e3⟩
   ·obtain ⟨v, s1, hx, hP, hr1⟩ := semPan_some h
    cases hr1
    obtain ⟨s2, h1, h2⟩ := hP _ (hO ops (w.tape w.drawn (.order b.fn id)))
    obtain ⟨g1, a1, w1, e1, e2, e3⟩ := execOps_sim hC false ops _ s _ s2 h1 g n0 K b a w.drew k ⟨hr.t, hr.inv.drew, hr.glob, hr.d, hr.p, hr.ro, hr.kind⟩
    have e4 : (flatS ops s2).p = s2.p := rfl
    rw [← h2]
    exact ⟨g1, a1, w1, (Good.drew n0 g w).trans e1, ⟨killT_rep _ _ e2.t, e2.inv, e2.glob, e2.d, e2.p, e2.ro, e2.kind⟩, .of_steps (.one stepR_region_draw) e3⟩
  ·rename_i hd
   cases draw with
   | false =>
    obtain ⟨g1, a1, w1, e1, e2, e3⟩ := execOps_sim hC false ops _ s ax s' h g n0 K b a w k hr
    exact ⟨g1, a1, w1, e1, e2, .of_steps (.one stepR_region) e3⟩
   | true =>
    simp only [Bool.true_and, Bool.not_eq_true', Bool.not_eq_false] at hd
    have hin : InP s := by
     intro i a' o ho
     obtain ⟨v, _, hv⟩ := hr.t.get ho
     simp only [Rep] at hv
     obtain ⟨B, hB, _⟩ := hv
     apply Decidable.byContradiction
     intro hlt
     rw [hr.inv.new a' (by omega)] at hB
     cases hB
    have h' := hR ops s (ax, s') (w.tape w.drawn (.order b.fn id)) hin hd h
    obtain ⟨g1, a1, w1, e1, e2, e3⟩ := execOps_sim hC true ops _ s ax s' h' g n0 K b a w.drew k ⟨hr.t, hr.inv.drew, hr.glob, hr.d, hr.p, hr.ro, hr.kind⟩
    exact ⟨g1, a1, w1, (Good.drew n0 g w).trans e1, e2, .of_steps (.one stepR_region_draw) e3⟩
 | scope x =>
  obtain ⟨g1, a1, w1, e1, e2, e3⟩ := hE x s ax s' h g n0 K b a w (.inScope x :: k) hr
  cases ax with
  | normal => exact ⟨g1, a1, w1, e1, e2, .head stepR_scope (Steps.trans e3 (.one stepR_inScope))⟩
  | exit id => obtain ⟨k1, f1, f2⟩ := e3; exact ⟨g1, a1, w1, e1, e2, k1, by rw [f1]; rfl, .head stepR_scope f2⟩
  | ret => obtain ⟨k1, f2⟩ := e3; exact ⟨g1, a1, w1, e1, e2, k1, .head stepR_scope f2⟩
  | panic v => obtain ⟨td, u, f1, f2⟩ := e3; exact ⟨g1, a1, w1, e1, e2, td, u, f1, .head stepR_scope f2⟩
 | exit id =>
  simp only [execS, Option.some.injEq, Prod.mk.injEq] at h
  obtain ⟨rfl, rfl⟩ := h
  exact ⟨g, a, w, Good.refl _ _ _, hr, k, rfl, .refl _ _⟩
 | ret =>
  simp only [execS, Option.some.injEq, Prod.mk.injEq] at h
  obtain ⟨rfl, rfl⟩ := h
  exact ⟨g, a, w, Good.refl _ _ _, hr, k, .refl _ _⟩
 | rangeFunc f ps assign body => exact rangeFunc_sim hC f ps assign body s ax s' h g n0 K b a w k hr
 | _ => simp [execS] at h
end Go.Ab
namespace Go.Ab
open Go.RowKit (Below)
structure PrOk (P : Program) : Prop where
 names : ∀ (f : FuncId) (fn : Func), P.funcs[f]? = some fn → fn.name ≠ "runtime.NumGoroutine"
 follows : P.follows .mixedOrders = true
theorem callFunc_run {P : Program} (hP : PrOk P) {f : FuncId} {fn : Func} {code : Code} (hf : P.funcs[f]? = some fn) (hb : fn.body = some code) (args : Array Value) (w : World) :
  (callFunc f args).run P w = .ok (.enter f args) w := by
 have hn := hP.names f fn hf
 simp [callFunc, hf, hn, hb]
theorem readRes_run {c : Cfg} {g : Gh} {n0 : Nat} {H : Heap} {w : World} (hI : Inv g n0 H w) {t : List V} {tm : Array Value} (ht : RepL g t tm.toList) (F : ResultVar → Sem Value)
  (F1 : ∀ i, F (.tmp i) = pure (tm.getD i Go.undef)) (F2 : ∀ a ty, F (.cell a ty) = (do loadVar ty (← asAddr (tm.getD a Go.undef)))) : ∀ (rs : List ResultVar) (vs : List V), readRes c.P H t rs = some vs →
  ∃ us : List Value, (rs.mapM F).run c.P w = .ok us w ∧ RepL g vs us
 | [], vs, h => by
  simp only [readRes, Option.some.injEq] at h
  subst h
  exact ⟨[], by simp, RepL.nil g⟩
 | r :: rs, vs, h => by
  have getD_rep : ∀ i, Rep g (t.getD i .undef) (tm.getD i Go.undef) := by
   intro i
   cases hx : t[i]? with
   | none => simp [List.getD, hx, Rep]
   | some y =>
    obtain ⟨v, hv, hr⟩ := ht.get hx
    have hv' : tm[i]? = some v := by simpa using hv
    have : i < tm.size := (Array.getElem?_eq_some_iff.1 hv').1
    have e1 : tm.getD i Go.undef = v := by
     have := (Array.getElem?_eq_some_iff.1 hv').2
     simp [Array.getD, *]
    rw [e1]
    simpa [List.getD, hx] using hr
  cases r with
  | tmp i =>
   simp only [readRes, Option.map_eq_some_iff] at h
   obtain ⟨vs', h1, rfl⟩ := h
   obtain ⟨us, e1, e2⟩ := readRes_run hI ht F F1 F2 rs vs' h1
   refine ⟨_ :: us, ?_, RepL.cons (getD_rep i) e2⟩
   rw [List.mapM_cons, F1]
   simp only [Sem.run_bind, Sem.run_pure, Result.andThen_ok, e1]
  | cell a ty =>
   simp only [readRes] at h
   split at h
   ·rename_i v vs' h1 h2
    simp only [Option.some.injEq] at h
    subst h
    obtain ⟨us, e1, e2⟩ := readRes_run hI ht F F1 F2 rs vs' h2
    obtain ⟨u, B, o, f1, f2, f3⟩ := loadP_run h1 hI (getD_rep a)
    refine ⟨u :: us, ?_, RepL.cons f3 e2⟩
    rw [List.mapM_cons, F2, f1]
    simp only [asAddr, Sem.run_bind, Sem.run_pure, Result.andThen_ok, f2, e1]
   ·cases h
theorem results_run {c : Cfg} {g : Gh} {n0 : Nat} {H : Heap} {w : World} (hI : Inv g n0 H w) {t : List V} {tm : Array Value} (ht : RepL g t tm.toList) {fn : Func} {vs : List V} (h : readRes c.P H t fn.results.toList = some vs) :
  ∃ u, (results fn tm).run c.P w = .ok u w ∧ Rep g (packRes vs) u := by
 have key : ∀ (F : ResultVar → Sem Value), results fn tm = (do let vs ← fn.results.mapM F; pure (if h : vs.size = 1 then vs[0] else .tuple vs)) → (∀ i, F (.tmp i) = pure (tm.getD i Go.undef)) → (∀ a ty, F (.cell a ty) = (do loadVar ty (← asAddr (tm.getD a Go.undef)))) → ∃ u, (results fn tm).run c.P w = .ok u w ∧ Rep g (packRes vs) u := by
  intro F hF F1 F2
  obtain ⟨us, e1, e2⟩ := readRes_run (c := c) hI ht F F1 F2 _ _ h
  have hlen := e2.length
  refine ⟨if h : us.toArray.size = 1 then us.toArray[0] else .tuple us.toArray, ?_, ?_⟩
  ·rw [hF, Array.mapM_eq_mapM_toList]
   simp only [Sem.run_bind, Sem.run_map, e1, Result.andThen_ok, Sem.run_pure]
  ·match vs, us, e2, hlen with
   | [], [], e2, _ => simp only [packRes, Rep]; exact ⟨#[], by simp, RepL.nil g⟩
   | [v], [u], e2, _ => rw [RepL.cons_iff] at e2; simpa [packRes] using e2.1
   | v :: v2 :: vs, u :: u2 :: us, e2, _ =>
    simp only [packRes, Rep]
    exact ⟨(u :: u2 :: us).toArray, by simp, e2⟩
   | [], _ :: _, _, h => simp at h
   | [_], [], _, h => simp at h
   | [_], _ :: _ :: _, _, h => simp at h
   | _ :: _ :: _, [], _, h => simp at h
   | _ :: _ :: _, [_], _, h => simp at h
 exact key _ rfl (fun _ => rfl) (fun _ _ => rfl)
theorem initT_rep {g : Gh} {args : List V} {vs : Array Value} (h : RepL g args vs.toList) (fn : Func) : RepL g (initT fn args) (vs ++ Array.replicate (fn.ntmps - vs.size) Go.undef).toList := by
 have hl := h.length
 simp at hl
 rw [Array.toList_append, initT, Array.toList_replicate, hl]
 exact h.append (RepL.replicate Rep.tuple0 _)
def DSim (c : Cfg) (D : DCallF) : Prop :=
 ∀ (fv : V) (args : List V) (h : Heap) (p : Pan) (h' : Heap) (p' : Pan), D fv args h p = some (h', p') → ∀ (g : Gh) (n0 : Nat) (w : World) (vf : Value) (vs : Array Value) (d : Deferred), Inv g n0 h w → GlobOk c g → Rep g fv vf → RepL g args vs.toList →
  Deferred.ofValue vf vs = pure d →
  ∃ fnv cap f ar, d.target = .fn fnv cap ∧ (invoke d.target d.args).run c.P w = .ok (.enter f ar) w ∧ ∀ (c0 : Frame) (rest : List Frame) (u : Value), PanOk g (.dfr c0 rest u) p →
   ∃ g' w' frX v, Good n0 g w g' w' ∧ Inv g' n0 h' w' ∧ PanOk g' (.dfr c0 rest u) p' ∧ Steps c.P (lone (Frame.enter c.P f ar .deferred) ((Ctx.dfr c0 rest u).cs p) w) (lone frX ((Ctx.dfr c0 rest u).cs p') w') ∧
    frX.kind = .deferred ∧ frX.going c.P w' (.returned v)
theorem func_rep {g : Gh} {f : FuncId} {first cap : List V} {vf : Value} {args : List V} {vs : Array Value} (r : Rep g (.func (.func f) first cap) vf) (ra : RepL g args vs.toList) :
  ∃ first' cap', vf = .func (.func f) first' cap' ∧ RepL g (first ++ args ++ cap) (first' ++ vs ++ cap').toList := by
 simp only [Rep] at r
 obtain ⟨a', b', rfl, h1, h2⟩ := r
 exact ⟨a', b', rfl, by simp only [Array.toList_append]; exact (h1.append ra).append h2⟩
theorem dbodyS_sim {c : Cfg} (hP : PrOk c.P) {E : ExecF} (hE : ESim c E) : DSim c (dbodyS c E) := by
 intro fv args h p h' p' hd g n0 w vf vs d hI hG rf ra hdv
 unfold dbodyS at hd
 split at hd
 ·rename_i f first cap
  split at hd
  ·cases hd
  ·rename_i fn hf
   split at hd
   ·cases hd
   ·rename_i code hb
    obtain ⟨first', cap', rfl, rargs⟩ := func_rep rf ra
    have hd0 : d = { target := .fn (.func f) cap', args := first' ++ vs } := by
     have h1 := congrArg (fun s => Sem.run c.P s w) hdv
     simp only [Deferred.ofValue, Sem.run_pure, Result.ok.injEq, and_true] at h1
     exact h1.symm
    subst hd0
    refine ⟨.func f, cap', f, first' ++ vs ++ cap', rfl, ?_, ?_⟩
    ·simp only [invoke]
     exact callFunc_run hP hf hb _ w
    ·intro c0 rest u hpan
     let b : Frame := { (default : Frame) with fn := f, kind := .deferred, roundOf := none }
     have henter : Frame.enter c.P f (first' ++ vs ++ cap') .deferred =
       b.atR { tmps := (first' ++ vs ++ cap') ++ Array.replicate (fn.ntmps - (first' ++ vs ++ cap').size) Go.undef, defers := [] } [.code code] := by
      simp [Frame.enter, Frame.atR, hf, hb, b]
     have hst : StRel c g n0 (.dfr c0 rest u) b { t := initT fn (first ++ args ++ cap), h, d := [], p, ro := none }
       { tmps := (first' ++ vs ++ cap') ++ Array.replicate (fn.ntmps - (first' ++ vs ++ cap').size) Go.undef, defers := [] } w :=
      ⟨initT_rep rargs fn, hI, hG, rfl, hpan, rfl, rfl⟩
     have fin : ∀ (ax : Ax) (s : St), (ax = .normal ∨ ax = .ret) → E code { t := initT fn (first ++ args ++ cap), h, d := [], p, ro := none } = some (ax, s) →
       (match s.d, readRes c.P s.h s.t fn.results.toList with
        | [], some _ => some (s.h, s.p)
        | _, _ => none : Option (Heap × Pan)) = some (h', p') →
       ∃ g' w' frX v, Good n0 g w g' w' ∧ Inv g' n0 h' w' ∧ PanOk g' (.dfr c0 rest u) p' ∧ Steps c.P (lone (Frame.enter c.P f (first' ++ vs ++ cap') .deferred) ((Ctx.dfr c0 rest u).cs p) w) (lone frX ((Ctx.dfr c0 rest u).cs p') w') ∧
        frX.kind = .deferred ∧ frX.going c.P w' (.returned v) := by
      intro ax s hax hex hm
      obtain ⟨g', a', w', e1, e2, e3⟩ := hE code _ ax s hex g n0 (.dfr c0 rest u) b _ w [] hst
      rw [← henter] at e3
      cases hsd : s.d with
      | cons x xs => rw [hsd] at hm; simp at hm
      | nil =>
       rw [hsd] at hm
       cases hrr : readRes c.P s.h s.t fn.results.toList with
       | none => rw [hrr] at hm; cases hm
       | some rs =>
        simp only [hrr, Option.some.injEq, Prod.mk.injEq] at hm
        obtain ⟨rfl, rfl⟩ := hm
        obtain ⟨v, hv, _⟩ := results_run (c := c) e2.inv e2.t hrr
        have hde : a'.defers = [] := by have := e2.d; rw [hsd] at this; exact this
        rcases hax with rfl | rfl
        ·exact ⟨g', w', { b.atR a' [] with mode := .returning }, v, e1, e2.inv, e2.p, Steps.trans e3 (.one (stepR_end rfl)), rfl, rfl, hde, fn, hf, hv⟩
        ·obtain ⟨k1, e3⟩ := e3
         exact ⟨g', w', { b.atR a' (.code .ret :: k1) with mode := .returning }, v, e1, e2.inv, e2.p, Steps.trans e3 (.one (stepR_ret rfl)), rfl, rfl, hde, fn, hf, hv⟩
     split at hd
     ·rename_i s hex; exact fin _ s (.inl rfl) hex hd
     ·rename_i s hex; exact fin _ s (.inr rfl) hex hd
     ·cases hd
 ·cases hd
def MdOk (g : Gh) : Md → FrameMode → Prop
 | .ret, m => m = .returning
 | .pan v, m => ∃ u, Rep g v u ∧ m = .panicking [{ v := u, recovered := false }]
theorem leaveS_sim {c : Cfg} (hP : PrOk c.P) {D : DCallF} (hD : DSim c D) : ∀ (ds : List Def) (h : Heap) (m : Md) (h' : Heap) (m' : Md), leaveS D ds h m = some (h', m') →
  ∀ (g : Gh) (n0 : Nat) (w : World) (fr : Frame) (cs : List Frame), Inv g n0 h w → GlobOk c g → DefsOk g ds fr.defers → MdOk g m fr.mode →
  ∃ g' w' mo, Good n0 g w g' w' ∧ Inv g' n0 h' w' ∧ MdOk g' m' mo ∧ Steps c.P (lone fr cs w) (lone { fr with defers := [], mode := mo } cs w')
 | [], h, m, h', m', hl, g, n0, w, fr, cs, hI, hG, hd, hm => by
  simp only [leaveS, Option.some.injEq, Prod.mk.injEq] at hl
  obtain ⟨rfl, rfl⟩ := hl
  have hd' : fr.defers = [] := hd
  exact ⟨g, w, fr.mode, Good.refl _ _ _, hI, hm, by rw [show ({ fr with defers := [], mode := fr.mode } : Frame) = fr by rw [← hd']]; exact .refl _ _⟩
 | .mark a :: ds, h, m, h', m', hl, g, n0, w, fr, cs, hI, hG, hd, hm => by
  obtain ⟨d, r, hd1, ⟨B, hB, rfl⟩, hd3⟩ := hd
  simp only [leaveS] at hl
  split at hl
  ·rename_i hbl
   obtain ⟨B', hmu, hn, hbe, hh⟩ := hI.blk a _ hbl
   rw [hB] at hmu
   simp only [Option.some.injEq] at hmu
   subst hmu
   simp only [if_true] at hh
   have hmode : fr.mode ≠ .run := by
    cases m with
    | ret => rw [hm]; simp
    | pan v => obtain ⟨u, _, e⟩ := hm; rw [e]; simp
   have hBl := hI.own_lt hbe
   have hGn : ∀ o, g.G B o = none := fun o => by
    cases hgo : g.G B o with
    | none => rfl
    | some v => have := hI.agree B o v hgo; simp [World.cell?, hh] at this
   have hst := step_collected (P := c.P) (cs := cs) hmode hd1 rfl (run_takeDeferred hh)
   obtain ⟨k1, k2⟩ := hI.updBlk (.dfr false) (List.getElem?_eq_some_iff.1 hbl).1 hB hn hbe hGn (But.putObj w B (.deferred none)) ⟨hbe, World.putObj_heap_same hBl⟩
   obtain ⟨g', w', mo, e1, e2, e3, e4⟩ := leaveS_sim hP hD ds _ m h' m' hl g n0 _ { fr with defers := [] ++ r } cs k1 (hG.mono k2.le) (by simpa using hd3) hm
   exact ⟨g', w', mo, k2.trans e1, e2, e3, .head hst e4⟩
  ·cases hl
 | .call fv args :: ds, h, m, h', m', hl, g, n0, w, fr, cs, hI, hG, hd, hm => by
  obtain ⟨d, r, hd1, ⟨vf, vs, r1, r2, r3⟩, hd3⟩ := hd
  cases m with
  | ret =>
   simp only [leaveS] at hl
   split at hl
   ·rename_i h1 hdc
    obtain ⟨fnv, cap, f, ar, t1, t2, t3⟩ := hD fv args h .no h1 .no hdc g n0 w vf vs d hI hG r1 r2 r3
    have hmode : fr.mode = .returning := hm
    have hst := step_defer (P := c.P) (cs := cs) (by rw [hmode]; simp) hd1 t1 t2
    obtain ⟨g1, w1, frX, v, q1, q2, q3, q4, q5, q6⟩ := t3 { fr with defers := r } cs (.bool true) trivial
    have hcs : (Ctx.dfr { fr with defers := r } cs (.bool true)).cs .no = { fr with defers := r } :: cs := by simp [Ctx.cs, pmode, ← hmode]
    rw [hcs] at q4
    have hgo := step_going_returned (P := c.P) (c := { fr with defers := r }) (cs := cs) q5 q6
    have hse : ({ ({ fr with defers := r } : Frame) with mode := settle ({ fr with defers := r } : Frame).mode } : Frame) = { fr with defers := r } := by
     simp [settle, hmode]
    rw [hse] at hgo
    obtain ⟨g', w', mo, e1, e2, e3, e4⟩ := leaveS_sim hP hD ds h1 .ret h' m' hl g1 n0 w1 { fr with defers := r } cs q2 (hG.mono q1.le) (hd3.mono q1.le) hm
    exact ⟨g', w', mo, q1.trans e1, e2, e3, .head hst (q4.trans (.head hgo e4))⟩
   ·cases hl
  | pan v =>
   obtain ⟨u, ru, hmode⟩ := hm
   simp only [leaveS] at hl
   have go : ∀ (h1 : Heap) (p1 : Pan) (m1 : Md), D fv args h (.pan v) = some (h1, p1) → (∀ g1 : Gh, PanOk g1 (.dfr { fr with defers := r } cs u) p1 → MdOk g1 m1 (settle (pmode u p1))) → leaveS D ds h1 m1 = some (h', m') →
     ∃ g' w' mo, Good n0 g w g' w' ∧ Inv g' n0 h' w' ∧ MdOk g' m' mo ∧ Steps c.P (lone fr cs w) (lone { fr with defers := [], mode := mo } cs w') := by
    intro h1 p1 m1 hdc hmd hl
    obtain ⟨fnv, cap, f, ar, t1, t2, t3⟩ := hD fv args h (.pan v) h1 p1 hdc g n0 w vf vs d hI hG r1 r2 r3
    have hst := step_defer (P := c.P) (cs := cs) (by rw [hmode]; simp) hd1 t1 t2
    obtain ⟨g1, w1, frX, v', q1, q2, q3, q4, q5, q6⟩ := t3 { fr with defers := r } cs u ru
    have hcs : (Ctx.dfr { fr with defers := r } cs u).cs (.pan v) = { fr with defers := r } :: cs := by simp [Ctx.cs, pmode, ← hmode]
    rw [hcs] at q4
    have hgo := step_going_returned (P := c.P) (c := { fr with defers := r, mode := pmode u p1 }) (cs := cs) q5 q6
    obtain ⟨g', w', mo, e1, e2, e3, e4⟩ := leaveS_sim hP hD ds h1 m1 h' m' hl g1 n0 w1 { fr with defers := r, mode := settle (pmode u p1) } cs q2 (hG.mono q1.le) (hd3.mono q1.le) (hmd g1 q3)
    exact ⟨g', w', mo, q1.trans e1, e2, e3, .head hst (q4.trans (.head hgo e4))⟩
   split at hl
   ·rename_i h1 v1 hdc
    exact go h1 (.pan v1) (.pan v1) hdc (fun g1 hp => ⟨u, hp, by simp [settle, pmode]⟩) hl
   ·rename_i h1 v1 hdc
    exact go h1 (.got v1) .ret hdc (fun g1 hp => by simp [settle, pmode, MdOk]) hl
   ·cases hl
end Go.Ab
namespace Go.Ab
open Go.RowKit (Below)
def LeaveR (P : Program) (g : Gh) (fr : Frame) (w : World) : CRes → Prop
 | .ret v => ∃ u, Rep g v u ∧ fr.leaving P w (.returned u)
 | .panic v => ∃ u, Rep g v u ∧ fr.leaving P w (.panicked [{ v := u, recovered := false }])
def BSim (c : Cfg) (f : FuncId) (args : List V) (h : Heap) (r : CRes) (h' : Heap) : Prop :=
 ∀ (g : Gh) (n0 : Nat) (w : World) (vs : Array Value), Inv g n0 h w → GlobOk c g → RepL g args vs.toList →
  (callFunc f vs).run c.P w = .ok (.enter f vs) w ∧ ∀ cs, ∃ g' w' frL, Good n0 g w g' w' ∧ Inv g' n0 h' w' ∧ Steps c.P (lone (Frame.enter c.P f vs .normal) cs w) (lone frL cs w') ∧ frL.fn = f ∧ LeaveR c.P g' frL w' r
theorem bodyS_sim {c : Cfg} (hP : PrOk c.P) {E : ExecF} {D : DCallF} (hE : ESim c E) (hD : DSim c D) {f : FuncId} {args : List V} {h h' : Heap} {r : CRes} (hb : bodyS c E D f args h = some (r, h')) :
  BSim c f args h r h' := by
 intro g n0 w vs hI hG ra
 unfold bodyS at hb
 split at hb
 ·cases hb
 ·rename_i fn hf
  split at hb
  ·cases hb
  ·rename_i code hcode
   refine ⟨callFunc_run hP hf hcode _ w, fun cs => ?_⟩
   let b : Frame := { (default : Frame) with fn := f, kind := .normal, roundOf := none }
   have henter : Frame.enter c.P f vs .normal = b.atR { tmps := vs ++ Array.replicate (fn.ntmps - vs.size) Go.undef, defers := [] } [.code code] := by
    simp [Frame.enter, Frame.atR, hf, hcode, b]
   have hst : StRel c g n0 (.nrm cs) b { t := initT fn args, h, d := [], p := .no, ro := none } { tmps := vs ++ Array.replicate (fn.ntmps - vs.size) Go.undef, defers := [] } w :=
    ⟨initT_rep ra fn, hI, hG, rfl, trivial, rfl, rfl⟩
   have fin : ∀ (s : St) (m : Md) (g1 : Gh) (a1 : Act) (w1 : World) (fr : Frame), StRel c g1 n0 (.nrm cs) b s a1 w1 → Good n0 g w g1 w1 → MdOk g1 m fr.mode → fr.defers = a1.defers → fr.tmps = a1.tmps → fr.fn = f → fr.kind = .normal →
     Steps c.P (lone (Frame.enter c.P f vs .normal) cs w) (lone fr cs w1) →
     (match leaveS D s.d s.h m with
      | some (h, .ret) => match readRes c.P h s.t fn.results.toList with
       | some vs => some (CRes.ret (packRes vs), h)
       | none => none
      | some (h, .pan v) => some (.panic v, h)
      | none => none) = some (r, h') →
     ∃ g' w' frL, Good n0 g w g' w' ∧ Inv g' n0 h' w' ∧ Steps c.P (lone (Frame.enter c.P f vs .normal) cs w) (lone frL cs w') ∧ frL.fn = f ∧ LeaveR c.P g' frL w' r := by
    intro s m g1 a1 w1 fr hs hg hm hd ht hfn hk hsteps hl
    cases hlv : leaveS D s.d s.h m with
    | none => rw [hlv] at hl; cases hl
    | some x =>
     obtain ⟨h2, m2⟩ := x
     obtain ⟨g2, w2, mo, e1, e2, e3, e4⟩ := leaveS_sim hP hD s.d s.h m h2 m2 hlv g1 n0 w1 fr cs hs.inv hs.glob (by rw [hd]; exact hs.d) hm
     rw [hlv] at hl
     cases m2 with
     | ret =>
      cases hrr : readRes c.P h2 s.t fn.results.toList with
      | none => simp only [hrr] at hl; cases hl
      | some rs =>
       simp only [hrr, Option.some.injEq, Prod.mk.injEq] at hl
       obtain ⟨rfl, rfl⟩ := hl
       obtain ⟨u, u1, u2⟩ := results_run (c := c) e2 (t := s.t) (tm := a1.tmps) (RepL.mono e1.le _ _ hs.t) hrr
       exact ⟨g2, w2, _, hg.trans e1, e2, hsteps.trans e4, hfn, u, u2, e3, rfl, hk, fn, by simpa [hfn] using hf, by simpa [ht] using u1⟩
     | pan v =>
      simp only [Option.some.injEq, Prod.mk.injEq] at hl
      obtain ⟨rfl, rfl⟩ := hl
      obtain ⟨u, u1, u2⟩ := e3
      exact ⟨g2, w2, _, hg.trans e1, e2, hsteps.trans e4, hfn, u, u1, u2, rfl, fn, by simpa [hfn] using hf⟩
   cases hex : E code { t := initT fn args, h, d := [], p := .no, ro := none } with
   | none => simp [hex] at hb
   | some x =>
    obtain ⟨ax, s⟩ := x
    obtain ⟨g1, a1, w1, e1, e2, e3⟩ := hE code _ ax s hex g n0 (.nrm cs) b _ w [] hst
    rw [← henter] at e3
    rw [hex] at hb
    cases ax with
    | normal => exact fin s .ret g1 a1 w1 { b.atR a1 [] with mode := .returning } e2 e1 rfl rfl rfl rfl rfl (Steps.trans e3 (.one (stepR_end rfl))) hb
    | ret =>
     obtain ⟨k1, e3⟩ := e3
     exact fin s .ret g1 a1 w1 { b.atR a1 (.code .ret :: k1) with mode := .returning } e2 e1 rfl rfl rfl rfl rfl (Steps.trans e3 (.one (stepR_ret rfl))) hb
    | panic v =>
     obtain ⟨td, u, u1, u2⟩ := e3
     exact fin s (.pan v) g1 a1 w1 _ e2 e1 ⟨u, u1, rfl⟩ rfl rfl rfl rfl u2 hb
    | exit id => cases hb
theorem BSim.back {c : Cfg} {f : FuncId} {args : List V} {h h' : Heap} {r : CRes} (hb : BSim c f args h r h') {g : Gh} {n0 : Nat} {w : World} {vs : Array Value} (hI : Inv g n0 h w) (hG : GlobOk c g) (ra : RepL g args vs.toList)
  (fr : Frame) (cs : List Frame) : ∃ g' w', Good n0 g w g' w' ∧ Inv g' n0 h' w' ∧ Back c.P g' (lone (Frame.enter c.P f vs .normal) (fr :: cs) w) fr cs w' r := by
 obtain ⟨_, h2⟩ := hb g n0 w vs hI hG ra
 obtain ⟨g', w', frL, e1, e2, e3, e4, e5⟩ := h2 (fr :: cs)
 refine ⟨g', w', e1, e2, ?_⟩
 cases r with
 | ret v => obtain ⟨u, u1, u2⟩ := e5; exact ⟨u, u1, e3.trans (.one (step_leave_returned u2))⟩
 | panic v => obtain ⟨u, u1, u2⟩ := e5; exact ⟨u, u1, e3.trans (.one (step_leave_panicked u2))⟩
theorem setAll_rep {g : Gh} : ∀ (ps : List Nat) (t : List V) (tm : Array Value) (args : List V) (vs : List Value), RepL g t tm.toList → RepL g args vs → RepL g ((ps.zip args).foldl (fun t (x : Nat × V) => t.set x.1 x.2) t) ((ps.zip vs).foldl (fun tm (x : Nat × Value) => tm.setIfInBounds x.1 x.2) tm).toList
 | [], t, tm, args, vs, h, ha => by simpa using h
 | p :: ps, t, tm, [], vs, h, ha => by rw [RepL.nil_iff] at ha; subst ha; simpa using h
 | p :: ps, t, tm, x :: args, [], h, ha => by simp [RepL] at ha
 | p :: ps, t, tm, x :: args, v :: vs, h, ha => by
  rw [RepL.cons_iff] at ha
  simp only [List.zip_cons_cons, List.foldl_cons]
  exact setAll_rep ps _ _ args vs (by rw [Array.toList_setIfInBounds]; exact h.set ha.1) ha.2
set_option maxHeartbeats 1000000 in
theorem roundS_sim {c : Cfg} {E : ExecF} (hE : ESim c E) {a : Nat} {args : List V} {h h' : Heap} {r : CRes} (hb : roundS E a args h = some (r, h')) {g : Gh} {n0 : Nat} {w : World} {vf : Value} {vs : Array Value}
  (hI : Inv g n0 h w) (hG : GlobOk c g) (rf : Rep g (.yld a) vf) (ra : RepL g args vs.toList) :
  ∃ l f tm as bo, (do let d ← Deferred.ofValue vf vs; invoke d.target d.args : Sem Next).run c.P w = .ok (.round l f tm as bo) w ∧
   ∀ fr cs, ∃ g' w', Good n0 g w g' w' ∧ Inv g' n0 h' w' ∧ Back c.P g' (lone (Frame.round l f tm as bo .normal) (fr :: cs) w) fr cs w' r := by
 unfold roundS at hb
 split at hb
 ·rename_i t ps assign body db hbl
  split at hb
  ·cases hb
  ·rename_i hlen
   obtain ⟨B, L, m1, m2, m3, m4, m5, m6, m7, m8, m9, m10, m11, m12, m13, m14⟩ := getLoop_blk hI hbl
   have hlen' : args.length = ps.length := by simpa using hlen
   have hvf : vf = .func (.yield B) #[] #[] := by
    simp only [Rep] at rf
    obtain ⟨B', b1, b2⟩ := rf
    rw [m1] at b1
    simp only [Option.some.injEq] at b1
    subst b1
    exact b2
   subst hvf
   have hsz : vs.size = L.params.size := by
    have := ra.length
    simp only [Array.length_toList] at this
    rw [← this, hlen', ← m6, Array.length_toList]
   refine ⟨B, L.fn, (L.params.zip vs).foldl (fun tmps (t, a) => tmps.setIfInBounds t a) L.tmps, L.assign, L.body, ?_, ?_⟩
   ·simp only [Deferred.ofValue, Sem.run_bind, Sem.run_pure, Result.andThen_ok, invoke, Array.empty_append]
    exact run_yield m4 hsz
   ·intro fr cs
    rw [m7, m8]
    let b : Frame := { (default : Frame) with fn := L.fn, kind := .normal, roundOf := some B }
    let tm := (L.params.zip vs).foldl (fun tmps (t, a) => tmps.setIfInBounds t a) L.tmps
    have htm : RepL g ((ps.zip args).foldl (fun t (x : Nat × V) => t.set x.1 x.2) t) tm.toList := by
     have := setAll_rep ps t L.tmps args vs.toList m5 ra
     rw [← m6] at this ⊢
     have e : tm = (L.params.toList.zip vs.toList).foldl (fun tm (x : Nat × Value) => tm.setIfInBounds x.1 x.2) L.tmps := by
      rw [← Array.toList_zip, Array.foldl_toList]
     rw [e]
     exact this
    have henter : Frame.round B L.fn tm assign body .normal = b.atR { tmps := tm, defers := [] } [.code assign, .beginRound, .code body] := rfl
    show ∃ g' w', Good n0 g w g' w' ∧ Inv g' n0 h' w' ∧ Back c.P g' (lone (Frame.round B L.fn tm assign body .normal) (fr :: cs) w) fr cs w' r
    rw [henter]
    have hst : StRel c g n0 (.nrm (fr :: cs)) b { t := (ps.zip args).foldl (fun t (x : Nat × V) => t.set x.1 x.2) t, h, d := [], p := .no, ro := some a } { tmps := tm, defers := [] } w :=
     ⟨htm, hI, hG, rfl, trivial, ⟨B, m1, rfl⟩, rfl⟩
    split at hb
    ·rename_i s hex
     obtain ⟨g1, a1, w1, e1, e2, e3⟩ := hE assign _ .normal s hex g n0 (.nrm (fr :: cs)) b _ w [.beginRound, .code body] hst
     simp only [Arr] at e3
     split at hb
     ·rename_i t2 ps2 assign2 body2 db2 hbl2
      obtain ⟨B', L1, n1, n2, n3, n4, n5, n6, n7, n8, n9, n10, n11, n12, n13, n14⟩ := getLoop_blk e2.inv hbl2
      have hB : B' = B := by
       have := e1.le.mu _ _ m1
       rw [n1] at this
       simpa using this
      subst hB
      obtain ⟨q1, q2⟩ := e2.inv.setLoop hbl2 n1 n4 .busy none
      have hpend : ({ L1 with state := .busy, pending := none } : Loop) = { L1 with state := .busy } := by rw [← n10]
      rw [hpend] at q1 q2
      have hst1 := stepR_beginRound (P := c.P) (b := b) (a := a1) (k := [.code body]) (cs := fr :: cs) (l := B') rfl (run_beginRound n4 n9)
      have hst2 : StRel c g1 n0 (.nrm (fr :: cs)) b { s with h := { s.h with bs := s.h.bs.set a (.loop t2 ps2 assign2 body2 .busy none db2) } } a1 (w1.putObj B' (.loop { L1 with state := .busy })) :=
       ⟨e2.t, q1, e2.glob, e2.d, e2.p, e2.ro, e2.kind⟩
      have fin : ∀ (s3 : St) (j : Option Code) (g3 : Gh) (a3 : Act) (w3 : World) , StRel c g3 n0 (.nrm (fr :: cs)) b s3 a3 w3 → Good n0 g w g3 w3 →
        (∀ w4, (Instr.endRound B' j).run c.P w3 = .ok (.bool j.isNone) w4 → Steps c.P (lone (b.atR { tmps := tm, defers := [] } [.code assign, .beginRound, .code body]) (fr :: cs) w) (lone (fr.finish (.bool j.isNone)) cs w4)) →
        (match s3.h.bs[a]? with
         | some (.loop t' ps' assign' body' _ _ db') =>
          some (CRes.ret (.bool j.isNone), { s3.h with bs := s3.h.bs.set a (.loop t' ps' assign' body' (if j.isNone then .ready else .done) j db') })
         | _ => none) = some (r, h') →
        ∃ g' w', Good n0 g w g' w' ∧ Inv g' n0 h' w' ∧ Back c.P g' (lone (b.atR { tmps := tm, defers := [] } [.code assign, .beginRound, .code body]) (fr :: cs) w) fr cs w' r := by
       intro s3 j g3 a3 w3 hs3 hg3 hsteps hl
       split at hl
       ·rename_i t4 ps4 assign4 body4 st4 pend4 db4 hbl4
        obtain ⟨B4, L4, o1, o2, o3, o4, o5, o6, o7, o8, o9, o10, o11, o12, o13, o14⟩ := getLoop_blk hs3.inv hbl4
        have hB4 : B4 = B' := by
         have := hg3.le.mu _ _ m1
         rw [o1] at this
         simpa using this
        subst hB4
        simp only [Option.some.injEq, Prod.mk.injEq] at hl
        obtain ⟨rfl, rfl⟩ := hl
        obtain ⟨p1, p2⟩ := hs3.inv.setLoop hbl4 o1 o4 (if j.isNone then .ready else .done) j
        exact ⟨g3, _, hg3.trans p2, p1, _, by simp [Rep], hsteps _ (run_endRound j o4)⟩
       ·cases hl
      cases hex2 : E body { s with h := { s.h with bs := s.h.bs.set a (.loop t2 ps2 assign2 body2 .busy none db2) } } with
      | none => simp [hex2] at hb
      | some x =>
       obtain ⟨ax, s3⟩ := x
       obtain ⟨g3, a3, w3, f1, f2, f3⟩ := hE body _ ax s3 hex2 g1 n0 (.nrm (fr :: cs)) b a1 _ [] hst2
       have hg3 := e1.trans (q2.trans f1)
       have f4 := Arr.of_steps (e3.trans (.one hst1)) f3
       rw [hex2] at hb
       cases ax with
       | normal => exact fin s3 none g3 a3 w3 f2 hg3 (fun w4 h4 => Steps.trans f4 (.one (stepR_round_end rfl rfl h4))) hb
       | ret =>
        obtain ⟨k1, f4⟩ := f4
        exact fin s3 (some .ret) g3 a3 w3 f2 hg3 (fun w4 h4 => Steps.trans f4 (.one (stepR_round_ret rfl rfl h4))) hb
       | exit id =>
        obtain ⟨k1, hk1, f4⟩ := f4
        exact fin s3 (some (.exit id)) g3 a3 w3 f2 hg3 (fun w4 h4 => Steps.trans f4 (.one (stepR_round_exit rfl rfl (by rw [hk1]; rfl) h4))) hb
       | panic v => cases hb
     ·cases hb
    ·cases hb
 ·cases hb
end Go.Ab
namespace Go.Ab
open Go.RowKit (Below)
def Opens (g : Gh) (F : V → Option V) : Prop := ∀ x x' u, F x = some x' → Rep g x u → Rep g.shut x' u ∧ (x.one = true → x'.one = true)
theorem mapO_rep {g : Gh} {F : V → Option V} (hF : Opens g F) : ∀ (xs ys : List V), pure1.mapO F xs = some ys → (∀ us, RepL g xs us → RepL g.shut ys us) ∧ (∀ B o, RepC g xs B o → RepC g.shut ys B o)
 | [], ys, h => by
  simp only [pure1.mapO, Option.some.injEq] at h
  subst h
  exact ⟨fun us h => by rw [RepL.nil_iff] at h ⊢; exact h, fun B o h => by simp [RepC]⟩
 | x :: xs, ys, h => by
  simp only [pure1.mapO] at h
  split at h
  ·rename_i v vs h1 h2
   simp only [Option.some.injEq] at h
   subst h
   obtain ⟨k1, k2⟩ := mapO_rep hF xs vs h2
   refine ⟨fun us h => ?_, fun B o h => ?_⟩
   ·simp only [RepL] at h ⊢
    obtain ⟨y, ys, e1, e2, e3⟩ := h
    exact ⟨y, ys, e1, (hF _ _ _ h1 e2).1, k1 _ e3⟩
   ·simp only [RepC] at h ⊢
    obtain ⟨⟨v', e1, e2, e3⟩, e4⟩ := h
    exact ⟨⟨v', e1, (hF _ _ _ h1 e2).1, (hF _ _ _ h1 e2).2 e3⟩, k2 _ _ e4⟩
  ·cases h
section
variable {g : Gh} {n0 : Nat} {H : Heap} {w : World} (hI : Inv g n0 H w) {F : V → Option V} (hF : Opens g F)
include hI hF
mutual
theorem pure1_rep : ∀ (v v' : V) (u : Value), pure1 F H v = some v' → Rep g v u → Rep g.shut v' u ∧ (v.one = true → v'.one = true)
 | .undef, v', u, h, r => by simp [pure1] at h
 | .bool b, v', u, h, r => by simp only [pure1, Option.some.injEq] at h; subst h; exact ⟨by simpa [Rep] using r, id⟩
 | .int k n, v', u, h, r => by simp only [pure1, Option.some.injEq] at h; subst h; exact ⟨by simpa [Rep] using r, id⟩
 | .str s, v', u, h, r => by simp only [pure1, Option.some.injEq] at h; subst h; exact ⟨by simpa [Rep] using r, id⟩
 | .row nl fl cs n tok, v', u, h, r => by
  simp only [pure1, Option.map_eq_some_iff] at h
  obtain ⟨cs', h0, rfl⟩ := h
  simp only [Rep] at r ⊢
  obtain ⟨a, cap, h1, h2, h3, h4, h5, h6, h7⟩ := r
  refine ⟨⟨a, cap, h1, h2, by simp, by simp, h5, fun ha => ⟨?_, trivial, .inr trivial⟩, fun A hA => ?_⟩, fun _ => rfl⟩
  ·have := (h6 ha).1
   subst this
   simpa [pure1.pure1L] using h0.symm
  ·obtain ⟨s1, s2, s3⟩ := h7 A hA
   exact ⟨fun hx => s1 (fun e => by subst e; simp [pure1.pure1L] at h0; subst h0; simp at hx), (pure1L_rep cs cs' h0).2 _ _ s2, by simp⟩
 | .rptr cs, v', u, h, r => by simp [pure1] at h
 | .ptr a off, v', u, h, r => by simp [pure1] at h
 | .nilptr, v', u, h, r => by simp only [pure1, Option.some.injEq] at h; subst h; exact ⟨by simpa [Rep] using r, id⟩
 | .slice a off len sz, v', u, h, r => by
  simp only [pure1] at h
  split at h
  ·rename_i cs hbl
   split at h
   ·simp only [Option.map_eq_some_iff] at h
    obtain ⟨cs', h0, rfl⟩ := h
    obtain ⟨B, m1, m2, m3⟩ := hI.blk a _ hbl
    simp only [Rep] at r
    obtain ⟨B', cap, b1, b2, b3, _⟩ := r
    rw [m1] at b1
    simp only [Option.some.injEq] at b1
    subst b1
    have hc : RepC g ((cs.drop off).take (len * sz)) B off := by
     have := (RepC.drop (g := g) (o := 0) (B := B) m3 off).take (len * sz)
     simpa using this
    refine ⟨?_, fun _ => rfl⟩
    simp only [Rep]
    exact ⟨some ⟨B, off, none⟩, cap, b2, b3, by simp, by simp, by simp, by simp, fun A hA => by
     simp only [Option.some.injEq] at hA
     subst hA
     exact ⟨fun _ => rfl, (mapO_rep hF _ _ h0).2 _ _ hc, by simp⟩⟩
   ·cases h
  ·cases h
 | .map a, v', u, h, r => by simp [pure1] at h
 | .nilmap, v', u, h, r => by simp only [pure1, Option.some.injEq] at h; subst h; exact ⟨by simpa [Rep] using r, id⟩
 | .func fn a b, v', u, h, r => by
  simp only [pure1] at h
  split at h
  ·rename_i a2 b2 h1 h2
   simp only [Option.some.injEq] at h
   subst h
   simp only [Rep] at r ⊢
   obtain ⟨a', b', e1, e2, e3⟩ := r
   exact ⟨⟨a', b', e1, (pure1L_rep a a2 h1).1 _ e2, (pure1L_rep b b2 h2).1 _ e3⟩, fun _ => rfl⟩
  ·cases h
 | .nilfunc, v', u, h, r => by simp only [pure1, Option.some.injEq] at h; subst h; exact ⟨by simpa [Rep] using r, id⟩
 | .yld a, v', u, h, r => by simp [pure1] at h
 | .iface t x, v', u, h, r => by
  simp only [pure1, Option.map_eq_some_iff] at h
  obtain ⟨x', h0, rfl⟩ := h
  simp only [Rep] at r ⊢
  obtain ⟨y, h1, h2⟩ := r
  exact ⟨⟨y, h1, (pure1_rep x x' y h0 h2).1⟩, fun _ => rfl⟩
 | .niliface, v', u, h, r => by simp only [pure1, Option.some.injEq] at h; subst h; exact ⟨by simpa [Rep] using r, id⟩
 | .agg cs, v', u, h, r => by
  simp only [pure1, Option.map_eq_some_iff] at h
  obtain ⟨x', h0, rfl⟩ := h
  simp only [Rep] at r ⊢
  obtain ⟨vs, h1, h2⟩ := r
  exact ⟨⟨vs, h1, (pure1L_rep cs x' h0).1 _ h2⟩, fun h => by cases h⟩
 | .tuple cs, v', u, h, r => by
  simp only [pure1, Option.map_eq_some_iff] at h
  obtain ⟨x', h0, rfl⟩ := h
  simp only [Rep] at r ⊢
  obtain ⟨vs, h1, h2⟩ := r
  exact ⟨⟨vs, h1, (pure1L_rep cs x' h0).1 _ h2⟩, fun h => by cases h⟩
theorem pure1L_rep : ∀ (xs ys : List V), pure1.pure1L F H xs = some ys → (∀ us, RepL g xs us → RepL g.shut ys us) ∧ (∀ B o, RepC g xs B o → RepC g.shut ys B o)
 | [], ys, h => by
  simp only [pure1.pure1L, Option.some.injEq] at h
  subst h
  exact ⟨fun us h => by rw [RepL.nil_iff] at h ⊢; exact h, fun B o h => by simp [RepC]⟩
 | x :: xs, ys, h => by
  simp only [pure1.pure1L] at h
  split at h
  ·rename_i v vs h1 h2
   simp only [Option.some.injEq] at h
   subst h
   obtain ⟨k1, k2⟩ := pure1L_rep xs vs h2
   refine ⟨fun us h => ?_, fun B o h => ?_⟩
   ·simp only [RepL] at h ⊢
    obtain ⟨y, ys, e1, e2, e3⟩ := h
    exact ⟨y, ys, e1, (pure1_rep x v _ h1 e2).1, k1 _ e3⟩
   ·simp only [RepC] at h ⊢
    obtain ⟨⟨v', e1, e2, e3⟩, e4⟩ := h
    exact ⟨⟨v', e1, (pure1_rep x v _ h1 e2).1, (pure1_rep x v _ h1 e2).2 e3⟩, k2 _ _ e4⟩
  ·cases h
end
end
theorem pureN_opens {g : Gh} {n0 : Nat} {H : Heap} {w : World} (hI : Inv g n0 H w) : ∀ n, Opens g (pureN H n)
 | 0 => fun x x' u h => by simp [pureN] at h
 | n + 1 => fun x x' u h r => pure1_rep hI (pureN_opens hI n) x x' u h r
theorem freezeAll_inv {n0 : Nat} {w : World} : ∀ (as : List Nat) (g : Gh) (H : Heap), Inv g n0 H w → ∃ g', Inv g' n0 (freezeAll H as) w ∧ Good n0 g w g' w
 | [], g, H, h => ⟨g, h, Good.refl _ _ _⟩
 | a :: as, g, H, h => by
  show ∃ g', Inv g' n0 (freezeAll (freezeB H a) as) w ∧ Good n0 g w g' w
  unfold freezeB
  split
  ·rename_i cs hbl
   obtain ⟨g1, h1, h2⟩ := h.freeze hbl
   obtain ⟨g2, h3, h4⟩ := freezeAll_inv as g1 _ h1
   exact ⟨g2, h3, h2.trans h4⟩
  ·exact freezeAll_inv as g H h
theorem handV_rep {g : Gh} {n0 : Nat} {h h' : Heap} {w : World} {xs ys : List V} {us : List Value} (hh : handV h xs = some (ys, h')) (hI : Inv g n0 h w) (r : RepL g xs us) :
  ∃ g', Inv g' n0 h' w ∧ Good n0 g w g' w ∧ RepL g'.shut ys us := by
 unfold handV at hh
 split at hh
 ·rename_i hc
  simp only [Option.some.injEq, Prod.mk.injEq] at hh
  obtain ⟨rfl, rfl⟩ := hh
  exact ⟨g, hI, Good.refl _ _ _, normL_rep xs us hc r⟩
 ·simp only [Option.map_eq_some_iff, Prod.mk.injEq] at hh
  obtain ⟨vs, h1, rfl, rfl⟩ := hh
  obtain ⟨g1, h2, h3⟩ := freezeAll_inv (xs.flatMap (reachN h 8)) g h hI
  exact ⟨g1, h2, h3, (mapO_rep (pureN_opens h2 8) xs vs h1).1 us (RepL.mono h3.le _ _ r)⟩
theorem Inv.shut {g : Gh} {n0 n1 : Nat} {h : Heap} {w : World} (hI : Inv g n0 h w) (hn : n1 ≤ w.heap.size) : Inv g.shut n1 emptyH w :=
 ⟨hn, hI.agree, fun a b h => by simp [emptyH] at h, fun _ _ => rfl, fun k sz h => by simp [emptyH] at h, fun _ _ => rfl, fun _ _ => rfl⟩
def PSim (P : Program) (glob : Nat → Option (List V)) (f : FuncId) (xs : List V) (r : CRes) : Prop :=
 ∀ (g : Gh) (n0 : Nat) (w : World) (vs : Array Value), Inv g.shut n0 emptyH w → (∀ i cs, glob i = some cs → RepC g.shut cs i 0) → RepL g.shut xs vs.toList →
  (callFunc f vs).run P w = .ok (.enter f vs) w ∧ ∀ cs, ∃ (g' : Gh) (w' : World) (frL : Frame), Good n0 g.shut w g'.shut w' ∧ Inv g'.shut n0 emptyH w' ∧ Steps P (lone (Frame.enter P f vs .normal) cs w) (lone frL cs w') ∧ frL.fn = f ∧ LeaveR P g'.shut frL w' r
theorem psim_pt {c : Cfg} {f : FuncId} {xs : List V} {r : CRes} {H : Heap} {o : Option (CRes × Heap)} (ho : outS o = some r) (hb : ∀ r h', o = some (r, h') → BSim c f xs H r h')
  {g g1 : Gh} {n0 : Nat} {w : World} {vs : Array Value} (hg1 : Good n0 g.shut w g1 w) (hI : Inv g1 n0 H w) (hG : GlobOk c g1) (ra : RepL g1 xs vs.toList) :
   (callFunc f vs).run c.P w = .ok (.enter f vs) w ∧ ∀ cs, ∃ (g' : Gh) (w' : World) (frL : Frame), Good n0 g.shut w g'.shut w' ∧ Inv g'.shut n0 emptyH w' ∧ Steps c.P (lone (Frame.enter c.P f vs .normal) cs w) (lone frL cs w') ∧ frL.fn = f ∧ LeaveR c.P g'.shut frL w' r := by
 have key : ∀ (r0 : CRes) (v v' : V) (h' h2 : Heap) , BSim c f xs H r0 h' → handV h' [v] = some ([v'], h2) → (∀ g1 g2 frL w', Good n0 g1 w' g2 w' → (∀ u, Rep g1 v u → Rep g2.shut v' u) → LeaveR c.P g1 frL w' r0 → LeaveR c.P g2.shut frL w' r) →
   (callFunc f vs).run c.P w = .ok (.enter f vs) w ∧ ∀ cs, ∃ (g' : Gh) (w' : World) (frL : Frame), Good n0 g.shut w g'.shut w' ∧ Inv g'.shut n0 emptyH w' ∧ Steps c.P (lone (Frame.enter c.P f vs .normal) cs w) (lone frL cs w') ∧ frL.fn = f ∧ LeaveR c.P g'.shut frL w' r := by
  intro r0 v v' h' h2 hB hh hL
  obtain ⟨k1, k2⟩ := hB g1 n0 w vs hI hG ra
  refine ⟨k1, fun cs => ?_⟩
  obtain ⟨g', w', frL, e1, e2, e3, e4, e5⟩ := k2 cs
  have ⟨g2, f1, f2, _⟩ : ∃ g2, Inv g2 n0 h2 w' ∧ Good n0 g' w' g2 w' ∧ ∀ u, Rep g' v u → Rep g2.shut v' u := by
   unfold handV at hh
   split at hh
   ·rename_i hc
    simp only [Option.some.injEq, Prod.mk.injEq] at hh
    obtain ⟨h3, rfl⟩ := hh
    refine ⟨g', e2, Good.refl _ _ _, fun u hu => ?_⟩
    have := normL_rep [v] [u] hc (RepL.cons hu (RepL.nil _))
    rw [h3, RepL.cons_iff] at this
    exact this.1
   ·simp only [Option.map_eq_some_iff, Prod.mk.injEq] at hh
    obtain ⟨l, h1, rfl, rfl⟩ := hh
    obtain ⟨g1, h2, h3⟩ := freezeAll_inv ([v].flatMap (reachN h' 8)) g' h' e2
    refine ⟨g1, h2, h3, fun u hu => ?_⟩
    have := (mapO_rep (pureN_opens h2 8) _ _ h1).1 [u] (RepL.cons (hu.mono h3.le) (RepL.nil _))
    rw [RepL.cons_iff] at this
    exact this.1
  have hg := (hg1.trans e1).trans f2
  exact ⟨g2, w', frL, ⟨hg.le.shut, hg.G, hg.below⟩, f1.shut e2.base, e3, e4, hL g' g2 frL w' f2 (by assumption) e5⟩
 unfold outS at ho
 split at ho
 ·rename_i v h'
  split at ho
  ·rename_i v' h2 hh
   simp only [Option.some.injEq] at ho
   subst ho
   refine key (.ret v) v v' h' h2 (hb _ _ rfl) hh (fun g1 g2 frL w' _ hr hl => ?_)
   obtain ⟨u, u1, u2⟩ := hl
   exact ⟨u, hr u u1, u2⟩
  ·cases ho
 ·rename_i v h'
  split at ho
  ·rename_i v' h2 hh
   simp only [Option.some.injEq] at ho
   subst ho
   refine key (.panic v) v v' h' h2 (hb _ _ rfl) hh (fun g1 g2 frL w' _ hr hl => ?_)
   obtain ⟨u, u1, u2⟩ := hl
   exact ⟨u, hr u u1, u2⟩
  ·cases ho
 ·cases ho
theorem psim_of_bsim {c : Cfg} {f : FuncId} {xs : List V} {r : CRes} {o : Option (CRes × Heap)} (ho : outS o = some r) (hb : ∀ r h', o = some (r, h') → BSim c f xs emptyH r h') : PSim c.P c.glob f xs r := by
 intro g n0 w vs hI hG ra
 exact psim_pt ho hb (Good.refl _ _ _) hI hG ra
theorem Inv.joinG {g g2 : Gh} {n0 : Nat} {h : Heap} {w w' : World} (hI : Inv g n0 h w) (hg : Good w.heap.size g.shut w g2.shut w') (hI2 : Inv g2.shut w.heap.size emptyH w') :
  Inv { g with G := g2.G } n0 h w' ∧ Good n0 g w { g with G := g2.G } w' := by
 have hle : g.le { g with G := g2.G } := ⟨hg.le.G, fun _ _ h => h, fun _ _ h => h, fun _ _ _ => rfl⟩
 have hheap : ∀ B, B < w.heap.size → w'.heap[B]? = w.heap[B]? := fun B hB => hg.below.block B hB
 have hGB : ∀ B o, B < w.heap.size → g2.G B o = g.G B o := fun B o hB => hg.G B o hB
 have hsize : w.heap.size ≤ w'.heap.size := hg.below.size
 refine ⟨⟨by have := hI.base; omega, hI2.agree, ?_, hI.new, ?_, hI.newt, fun B hB => hI.fresh B (by omega)⟩, ⟨hle, fun B o hB => hGB B o (by have := hI.base; omega), ⟨hg.below.os, hg.below.tape, hg.below.output, hsize, fun B hB => hheap B (by have := hI.base; omega)⟩⟩⟩
 ·intro a b hab
  refine (hI.blk a b hab).keep id (fun B h1 h2 h3 => ?_)
  exact ⟨B, h1, h2, h3.keep h1 hle (fun B hx => hheap B (hI.own_lt hx)) (fun _ => id) (fun B hx hz o => by show g2.G B o = none; rw [hGB B o (hI.own_lt hx)]; exact hz o)⟩
 ·intro k sz hk
  obtain ⟨t, h1, h2⟩ := hI.tok k sz hk
  have hlt := hI.own_lt h2.2.2.1
  exact ⟨t, h1, h2.keep (hheap _ hlt) h2.2.2.1 (fun o hx => by show g2.G t.B o = none; rw [hGB _ _ hlt]; exact hx)⟩
def ExtOk (c : Cfg) : Prop := (∀ f xs r, c.ext f xs = some r → PSim c.P c.glob f xs r) ∧ ∀ f args h r h', c.nat f args h = some (r, h') → BSim c f args h r h'
theorem callS_sim {c : Cfg} (hP : PrOk c.P) (hX : ExtOk c) {E : ExecF} {D : DCallF} (hE : ESim c E) (hD : DSim c D) : CSim c (callS c E D) := by
 intro fv args h r h' hc g n0 w vf vs hI hG rf ra
 unfold callS at hc
 split at hc
 ·rename_i f first cap
  obtain ⟨first', cap', rfl, rargs⟩ := func_rep rf ra
  left
  have hinv : ∀ {ar : Array Value}, (callFunc f (first' ++ vs ++ cap')).run c.P w = .ok (.enter f ar) w → (do let d ← Deferred.ofValue (.func (.func f) first' cap') vs; invoke d.target d.args : Sem Next).run c.P w = .ok (.enter f ar) w := by
   intro ar h1
   simpa only [Deferred.ofValue, Sem.run_bind, Sem.run_pure, Result.andThen_ok, invoke] using h1
  split at hc
  ·
   split at hc
   ·rename_i xs h1 hh
    obtain ⟨g1, i1, i2, i3⟩ := handV_rep hh hI rargs
    have main : ∀ r', PSim c.P c.glob f xs r' → ∃ f' ar, (do let d ← Deferred.ofValue (.func (.func f) first' cap') vs; invoke d.target d.args : Sem Next).run c.P w = .ok (.enter f' ar) w ∧
      ∀ fr cs, ∃ g' w', Good n0 g w g' w' ∧ Inv g' n0 h1 w' ∧ Back c.P g' (lone (Frame.enter c.P f' ar .normal) (fr :: cs) w) fr cs w' r' := by
     intro r' hp
     obtain ⟨k1, k2⟩ := hp g1 w.heap.size w (first' ++ vs ++ cap') (i1.shut (Nat.le_refl _)) (hG.mono i2.le) i3
     refine ⟨f, first' ++ vs ++ cap', hinv k1, fun fr cs => ?_⟩
     obtain ⟨g2, w2, frL, e1, e2, e3, e4, e5⟩ := k2 (fr :: cs)
     obtain ⟨j1, j2⟩ := i1.joinG e1 e2
     have hle : g2.shut.le { g1 with G := g2.G } := ⟨fun _ _ _ h => h, fun _ _ h => (by cases h), fun _ _ h => (by cases h), fun _ _ h => (by cases h)⟩
     refine ⟨_, w2, i2.trans j2, j1, ?_⟩
     cases r' with
     | ret v => obtain ⟨u, u1, u2⟩ := e5; exact ⟨u, u1.mono hle, e3.trans (.one (step_leave_returned u2))⟩
     | panic v => obtain ⟨u, u1, u2⟩ := e5; exact ⟨u, u1.mono hle, e3.trans (.one (step_leave_panicked u2))⟩
    split at hc
    ·rename_i r1 hx
     simp only [Option.some.injEq, Prod.mk.injEq] at hc
     obtain ⟨rfl, rfl⟩ := hc
     exact main r1 (hX.1 _ _ _ hx)
    ·simp only [Option.map_eq_some_iff, Prod.mk.injEq] at hc
     obtain ⟨r1, ho, rfl, rfl⟩ := hc
     exact main r1 (psim_of_bsim ho (fun r h' hb => bodyS_sim hP hE hD hb))
   ·cases hc
  split at hc
  ·have hB := hX.2 _ _ _ _ _ hc
   exact ⟨f, _, hinv (hB g n0 w _ hI hG rargs).1, fun fr cs => hB.back hI hG rargs fr cs⟩
  ·have hB := bodyS_sim hP hE hD hc
   exact ⟨f, _, hinv (hB g n0 w _ hI hG rargs).1, fun fr cs => hB.back hI hG rargs fr cs⟩
 ·rename_i a
  right
  exact roundS_sim hE hc hI hG rf ra
 ·cases hc
def RegOkAll (c : Cfg) : Prop := OrdOk c ∧ ∀ n, RegOk c (run c n).C
theorem run_sim {c : Cfg} (hP : PrOk c.P) (hX : ExtOk c) (hR : RegOkAll c) : ∀ n, ESim c (run c n).E ∧ CSim c (run c n).C ∧ DSim c (run c n).D
 | 0 => ⟨fun code s ax s' h => by simp [run] at h, fun fv args h r h' hc => by simp [run] at hc, fun fv args h p h' p' hd => by simp [run] at hd⟩
 | n + 1 => by
  obtain ⟨h1, h2, h3⟩ := run_sim hP hX hR n
  exact ⟨fun code s ax s' h => execS_sim h1 h2 (hR.2 n) hR.1 code s ax s' h, callS_sim hP hX h1 h3, dbodyS_sim hP h1⟩
end Go.Ab
