/- Still more operations: lengths, greatest and least, building, new rows, appending, assertions. -/
import Derived.Test.YtdfpmhgfmmcopaaDoorAbsOps2
import Derived.Laws.Tables
import Derived.Laws.AppendOwn
set_option linter.unusedVariables false
set_option linter.unusedSimpArgs false
set_option linter.unusedSectionVars false
set_option linter.deprecated false
namespace Go.Ab
open Go.RowKit (Below)
variable {P : Program} {g : Gh} {n0 : Nat} {H : Heap} {w : World}

theorem lenV_run {t : TypeId} {x y : V} (h : lenV P H t x = some y) (hI : Inv g n0 H w) {v : Value} (r : Rep g x v) (ts : Array TypeId) (ty : TypeId) (args : Array Value)
    (ht : ts[0]? = some t) (ha : args[0]? = some v) : ∃ u, (Builtin.len_ ts ty args).run P w = .ok u w ∧ Rep g y u := by
  unfold lenV at h
  split at h
  · rename_i s hu
    have := rep_str r; subst this
    simp only [Option.some.injEq] at h; subst h
    have hsz : (⟨s.toArray⟩ : ByteArray).size = s.length := by simp [ByteArray.size]
    exact ex_int (by simp [Builtin.len_, ht, ha, run_underlying hu, goInt, hsz])
  · rename_i hu
    simp only [Rep] at r
    obtain ⟨a, cap, rfl, _⟩ := r
    simp only [Option.some.injEq] at h; subst h
    exact ex_int (by simp [Builtin.len_, ht, ha, run_underlying hu, goInt])
  · rename_i hu
    simp only [Rep] at r
    obtain ⟨a, cap, _, rfl, _⟩ := r
    simp only [Option.some.injEq] at h; subst h
    exact ex_int (by simp [Builtin.len_, ht, ha, run_underlying hu, goInt])
  · rename_i hu
    simp only [Option.some.injEq] at h; subst h
    exact ex_int (by simp [Builtin.len_, ht, ha, run_underlying hu, goInt])
  · rename_i hu
    simp only [Rep] at r
    subst r
    simp only [Option.some.injEq] at h; subst h
    exact ex_int (by simp [Builtin.len_, ht, ha, run_underlying hu, goInt])
  · rename_i a hu
    simp only [Rep] at r
    obtain ⟨B, hmu, rfl⟩ := r
    split at h
    · rename_i es clock hb
      simp only [Option.some.injEq] at h; subst h
      obtain ⟨B', hmu', _, hbe, rs, hh, he⟩ := hI.blk a _ hb
      rw [hmu] at hmu'
      simp only [Option.some.injEq] at hmu'
      subst hmu'
      refine ex_int ?_
      have hg : (getObj B).run P w = .ok (.map rs.toArray clock) w := by simp [getObj, Sem.run, hh]
      simp [Builtin.len_, ht, ha, run_underlying hu, goInt, hg, he.1]
    · cases h
  · cases h

theorem foldN_run (op : Builtin) (f : Value → Value → Sem Value) (hf : ∀ k j x y z, maxN op (.int k x) (.int j y) = some z → ∃ u, f (.int k x) (.int j y) = pure u ∧ Rep g z u) :
    ∀ (xs : List V) (vs : List Value) (x y : V) (v : Value), foldN op x xs = some y → Rep g x v → RepL g xs vs → ∀ w : World,
    ∃ u, (vs.foldlM f v).run P w = .ok u w ∧ Rep g y u
  | [], vs, x, y, v, h, r, rl, w => by
    rw [RepL.nil_iff] at rl
    subst rl
    simp only [foldN, Option.some.injEq] at h
    subst h
    exact ⟨v, by simp, r⟩
  | z :: xs, [], x, y, v, h, r, rl, w => by simp [RepL] at rl
  | z :: xs, u :: vs, x, y, v, h, r, rl, w => by
    rw [RepL.cons_iff] at rl
    simp only [foldN] at h
    split at h
    · rename_i q hq
      have hx : ∃ k a j b, x = .int k a ∧ z = .int j b := by
        cases x <;> cases z <;> simp [maxN] at hq
        exact ⟨_, _, _, _, rfl, rfl⟩
      obtain ⟨k, a, j, b, rfl, rfl⟩ := hx
      have := rep_int r; have := rep_int rl.1; subst_vars
      obtain ⟨u', hu', hr'⟩ := hf k j a b q hq
      obtain ⟨u2, h1, h2⟩ := foldN_run op f hf xs vs q y u' h hr' rl.2 w
      exact ⟨u2, by simp only [List.foldlM_cons, hu', pure_bind]; exact h1, h2⟩
    · cases h

theorem max2_ok (k j : IntKind) (x y : Int) (z : V) (h : maxN .max (.int k x) (.int j y) = some z) : ∃ u, Builtin.max2 (.int k x) (.int j y) = pure u ∧ Rep g z u := by
  simp only [maxN, Option.some.injEq] at h
  subst h
  exact ⟨_, rfl, Rep.int _ _⟩
theorem min2_ok (k j : IntKind) (x y : Int) (z : V) (h : maxN .min (.int k x) (.int j y) = some z) : ∃ u, Builtin.min2 (.int k x) (.int j y) = pure u ∧ Rep g z u := by
  simp only [maxN, Option.some.injEq] at h
  subst h
  exact ⟨_, rfl, Rep.int _ _⟩

/-! ### Building -/
def RepP (g : Gh) : List (Nat × V) → List (Nat × Value) → Prop
  | [], vs => vs = []
  | (i, x) :: xs, vs => ∃ v ws, vs = (i, v) :: ws ∧ Rep g x v ∧ RepP g xs ws

theorem put_rep (off : Nat) : ∀ (us : List V) (vs : List Value) (k : Nat) (cs : List V) (arr : Array Value), RepL g us vs → RepL g cs arr.toList →
    RepL g (writeL cs (off + k) us) ((vs.zipIdx k).foldl (fun (a : Array Value) (c, j) => a.setIfInBounds (off + j) c) arr).toList
  | [], vs, k, cs, arr, h, hc => by
    rw [RepL.nil_iff] at h
    subst h
    simpa [writeL] using hc
  | u :: us, [], k, cs, arr, h, hc => by simp [RepL] at h
  | u :: us, v :: vs, k, cs, arr, h, hc => by
    rw [RepL.cons_iff] at h
    simp only [List.zipIdx_cons, List.foldl_cons, writeL]
    exact put_rep off us vs (k + 1) _ _ h.2 (by simpa using hc.set h.1)

theorem fillL_run (place : Nat → Option (Nat × Nat)) : ∀ (parts : List (Nat × V)) (vs : List (Nat × Value)) (cs cs' : List V) (arr : Array Value), fillL place cs parts = some cs' → RepP g parts vs → RepL g cs arr.toList →
    (∀ c ∈ cs, V.one c = true) → ∃ arr', Instr.fill place arr vs = some arr' ∧ RepL g cs' arr'.toList ∧ (∀ c ∈ cs', V.one c = true) ∧ cs'.length = cs.length
  | [], vs, cs, cs', arr, h, hp, hc, h1 => by
    simp only [RepP] at hp
    subst hp
    simp only [fillL, Option.some.injEq] at h
    subst h
    exact ⟨arr, rfl, hc, h1, rfl⟩
  | (i, x) :: parts, vs, cs, cs', arr, h, hp, hc, h1 => by
    simp only [RepP] at hp
    obtain ⟨v, ws, rfl, hx, hp⟩ := hp
    simp only [fillL] at h
    split at h
    · rename_i off sz us hpl hus
      split at h
      · rename_i hl
        obtain ⟨r1, r2⟩ := cellsO_rep hus hx
        have hsz : v.cells.size = sz := by have := r1.length; simp at this; omega
        have hal : arr.size = cs.length := by have := hc.length; simp at this; omega
        have hput := put_rep (g := g) off us v.cells.toList 0 cs arr r1 hc
        have hone : ∀ c ∈ writeL cs off us, V.one c = true := by
          intro c hcm
          obtain ⟨j, hj⟩ := List.mem_iff_getElem?.1 hcm
          rw [writeL_get] at hj
          split at hj
          · exact r2 c (List.mem_of_getElem? hj)
          · exact h1 c (List.mem_of_getElem? hj)
        obtain ⟨arr', e1, e2, e3, e4⟩ := fillL_run place parts ws _ cs' _ h hp (by simpa using hput) hone
        refine ⟨arr', ?_, e2, e3, by rw [e4, writeL_length]⟩
        simp only [Instr.fill, hpl]
        rw [if_neg (by simp [hsz]; omega)]
        rw [← e1]
        congr 1
        rw [← Array.foldl_toList]
        simp
      · cases h
    · cases h

theorem buildV_run {t : TypeId} {parts : List (Nat × V)} {y : V} (h : buildV P t parts = some y) {vs : Array (Nat × Value)} (hp : RepP g parts vs.toList) (w : World) :
    ∃ u, (Instr.build t vs).run P w = .ok u w ∧ Rep g y u := by
  unfold buildV at h
  split at h
  · rename_i z fs hz hu
    obtain ⟨i, zv, hi, hzv, hr, h1, _⟩ := zeroCs_run hz g
    split at h
    · rename_i places hpl
      simp only [Option.map_eq_some_iff] at h
      obtain ⟨cs, hcs, rfl⟩ := h
      obtain ⟨arr, e1, e2, _, _⟩ := fillL_run _ parts vs.toList z cs zv.cells hcs hp hr h1
      refine ⟨.agg arr, run_build w t vs arr ?_, by simp only [Rep]; exact ⟨arr, rfl, e2⟩⟩
      simp only [placesO, hu] at hpl
      simp only [Program.built, hi, hu, hzv, hpl, e1]
    · cases h
  · rename_i z n e hz hu
    obtain ⟨i, zv, hi, hzv, hr, h1, _⟩ := zeroCs_run hz g
    split at h
    · rename_i sz hs
      simp only [Option.map_eq_some_iff] at h
      obtain ⟨cs, hcs, rfl⟩ := h
      obtain ⟨arr, e1, e2, _, _⟩ := fillL_run _ parts vs.toList z cs zv.cells hcs hp hr h1
      refine ⟨.agg arr, run_build w t vs arr ?_, by simp only [Rep]; exact ⟨arr, rfl, e2⟩⟩
      obtain ⟨ie, hie, rfl⟩ := info_of_szO hs
      simp only [Program.built, hi, hu, hzv, hie, e1]
    · cases h
  · cases h

/-- the cells of so many zero values -/
theorem zeroes_get (z : Array Value) (n i : Nat) (hi : i < n * z.size) : ((Array.range (n * z.size)).map (fun i => z[i % z.size]!))[i]? = some z[i % z.size]! := by
  simp [hi]

theorem rep_flat {z : List V} {zv : Array Value} (hr : RepL g z zv.toList) (n : Nat) :
    RepL g (List.replicate n z).flatten (((Array.range (n * zv.size)).map (fun i => zv[i % zv.size]!)).toList) := by
  have hlen := hr.length
  simp at hlen
  rw [RepL.iff]
  constructor
  · simp [hlen]
  · intro i x hx
    have hz : 0 < zv.size := by
      cases hzs : zv.size with
      | zero =>
        have : z = [] := List.eq_nil_of_length_eq_zero (by omega)
        subst this
        have : (List.replicate n ([] : List V)).flatten = [] := by simp
        rw [this] at hx; simp at hx
      | succ k => omega
    have hi : i < n * zv.size := by
      have := (List.getElem?_eq_some_iff.1 hx).1
      simpa [hlen] using this
    have hmod : i % zv.size < z.length := by rw [hlen]; exact Nat.mod_lt _ hz
    have hxe : ∀ (n i : Nat), i < n * z.length → (List.replicate n z).flatten[i]? = z[i % z.length]? := by
      intro n
      induction n with
      | zero => intro i hi; omega
      | succ n ih =>
        intro i hi
        rw [List.replicate_succ, List.flatten_cons, List.getElem?_append]
        split
        · rename_i hl; rw [Nat.mod_eq_of_lt hl]
        · rename_i hl
          rw [ih _ (by rw [Nat.succ_mul] at hi; omega)]
          congr 1
          rw [Nat.mod_eq_sub_mod (by omega : z.length ≤ i)]
    rw [hxe n i (by rw [hlen]; exact hi), hlen] at hx
    obtain ⟨v, hv, hrv⟩ := hr.get hx
    refine ⟨v, ?_, hrv⟩
    have hlt : i % zv.size < zv.size := Nat.mod_lt _ hz
    have : zv[i % zv.size]! = v := by
      rw [getElem!_pos zv _ hlt]
      simpa [hlt] using hv
    simp [hi, this]

theorem flat_one {z : List V} (h : ∀ c ∈ z, V.one c = true) (n : Nat) : ∀ c ∈ (List.replicate n z).flatten, V.one c = true := by
  intro c hc
  simp only [List.mem_flatten, List.mem_replicate] at hc
  obtain ⟨l, ⟨_, rfl⟩, hc⟩ := hc
  exact h c hc

theorem buildSliceV_run {t : TypeId} {len : Nat} {parts : List (Nat × V)} {y : V} (h : buildSliceV P t len parts = some y) (hI : Inv g n0 H w) {vs : Array (Nat × Value)} (hp : RepP g parts vs.toList) :
    ∃ g' w' u, (Instr.buildSlice t len vs).run P w = .ok u w' ∧ Good n0 g w g' w' ∧ Inv g' n0 H w' ∧ Rep g' y u := by
  unfold buildSliceV at h
  split at h
  · rename_i e he
    split at h
    · rename_i sz z hs hz
      split at h
      · rename_i hle
        simp only [Option.map_eq_some_iff] at h
        obtain ⟨cs, hcs, rfl⟩ := h
        obtain ⟨i, zv, hi, hzv, hr, h1, hzl, hzs⟩ := zeroCs_run hz g
        obtain ⟨i', hi', rfl⟩ := info_of_szO hs
        rw [hi] at hi'
        simp only [Option.some.injEq] at hi'
        subst hi'
        have hfl := rep_flat hr len
        obtain ⟨arr, e1, e2, e3, e4⟩ := fillL_run _ parts vs.toList _ cs _ hcs hp hfl (flat_one h1 len)
        have hu := run_underlying_slice he
        have hlen : arr.toList.take cs.length = arr.toList := List.take_of_length_le (by rw [e2.length]; exact Nat.le_refl _)
        obtain ⟨g', k1, k2, k3, _⟩ := hI.newRow arr e cs (by rw [hlen]; exact e2) e3
        refine ⟨g', _, .slice (some ⟨w.heap.size, 0, none⟩) len len, ?_, k2, k1, ?_⟩
        · rw [hzs] at e1
          have hsm : ¬ (len * i.size > 2 ^ 24) := by have : (65536 : Nat) ≤ 2 ^ 24 := by decide
                                                     omega
          simp only [Instr.buildSlice, Sem.run_bind, run_underlying hu, Result.andThen_ok, run_szO hs]
          rw [if_neg hsm]
          by_cases h0 : len * i.size = 0
          · have e0 : ∀ f : Nat → Value, (Array.range 0).map f = #[] := fun f => by simp
            rw [h0, e0] at e1
            simp only [h0, if_true, Sem.run_bind, Sem.run_pure, Result.andThen_ok, e0, e1, newRow, run_newObj_alloc]
          · simp only [h0, if_false, Sem.run_bind, Sem.run_pure, run_zeroValue hi hzv, Result.andThen_ok, hzs, e1, newRow, run_newObj_alloc]
        · simp only [Rep]
          refine ⟨_, _, rfl, Nat.le_refl _, by simp, by simp, by simp, by simp, ?_⟩
          intro A hA
          simp only [Option.some.injEq] at hA
          subst hA
          exact ⟨fun _ => rfl, k3, by simp⟩
      · cases h
    · cases h
  · cases h

/-! ### Appending -/
theorem append_grow {ts : Array TypeId} {t0 t1 e : TypeId} {d : TypeDesc} {i : TypeInfo} {zv : Value} (h0 : ts[0]? = some t0) (h1 : ts[1]? = some t1) (hu : P.underlying t0 = some (.slice e))
    (hd : P.underlying t1 = some d) (hni : ∀ k, d ≠ .int k) (hi : P.info? e = some i) (hz : i.zero = some zv) {a : Option Addr} {n cap m : Nat} {vx : Value} {cs' new' : List Value} (ty : TypeId)
    (hlx : (Builtin.lenOf vx).run P w = .ok m w) (hold : ∀ w : World, True) (hfs : (Builtin.firstCells i.size n (.slice a n cap)).run P w.drew = .ok cs'.toArray w.drew)
    (hfx : (Builtin.firstCells i.size m vx).run P w.drew = .ok new'.toArray w.drew) (hneed : cap < n + m) (hsm : smallRow (n + m) i.bytes = true) :
    (Builtin.append_ ts ty #[.slice a n cap, vx]).run P w = .ok (.slice (some ⟨w.heap.size, 0, none⟩) (n + m) (grownCap w (n + m) cap e))
      (w.drew.alloc (.cells (cs'.toArray ++ new'.toArray ++ Builtin.zeroCells zv.cells (grownCap w (n + m) cap e - (n + m))) e)) := by
  simp only [smallRow, Bool.and_eq_true, decide_eq_true_eq] at hsm
  have hbytes : (n + m) * i.bytes ≤ 140737488355328 := by
    have := Nat.mul_le_mul hsm.1 hsm.2
    omega
  have hg := growslice_fits (bytes := i.bytes) hneed hbytes
  have hk : ∀ k, d = .int k → False := fun k hk => hni k hk
  have hzeros : (match d with | .int _ => true | _ => false) = false := by cases d <;> first | rfl | exact absurd rfl (hni _)
  unfold Builtin.append_
  simp only [h0, h1, List.getElem?_toArray, List.getElem?_cons_zero, List.getElem?_cons_succ, Sem.run_bind, run_underlying hu, run_underlying hd, Result.andThen_ok, sizeOf, run_typeInfo hi, Sem.run_pure, hzeros]
  simp only [Bool.false_eq_true, if_false, hlx, Result.andThen_ok, Sem.run_bind]
  rw [if_neg (by omega)]
  simp only [Sem.run_bind, run_typeInfo hi, Result.andThen_ok, Sem.run_pure, Bool.not_false, if_true]
  rw [if_neg (by rw [IntKind.max_i64]; omega)]
  simp only [Sem.run_bind, run_typeInfo hi, Result.andThen_ok]
  rw [if_neg (by have : (2 : Nat) ^ 48 = 281474976710656 := by decide
                 omega)]
  simp only [Sem.run_bind, run_choose_drew, Question.forced, Bool.false_eq_true, if_false, Result.andThen_ok, run_typeInfo hi, run_askRoom, hfs, hfx, run_zeroValue hi hz, newRow, run_newObj_alloc, Sem.run_pure, grownCap]
  rfl

theorem append_fits {ts : Array TypeId} {t0 t1 e : TypeId} {d : TypeDesc} {i : TypeInfo} (h0 : ts[0]? = some t0) (h1 : ts[1]? = some t1) (hu : P.underlying t0 = some (.slice e))
    (hd : P.underlying t1 = some d) (hni : ∀ k, d ≠ .int k) (hi : P.info? e = some i) {a : Option Addr} {n cap m : Nat} {vx : Value} {new' : List Value} (ty : TypeId) {w w' : World}
    (hlx : (Builtin.lenOf vx).run P w = .ok m w) (hfx : (Builtin.firstCells i.size m vx).run P w = .ok new'.toArray w) (hneed : n + m ≤ cap)
    (hst : (match a with | some A => (storeCells (A.add (n * i.size)) new').run P w | none => .ok () w) = .ok () w') :
    (Builtin.append_ ts ty #[.slice a n cap, vx]).run P w = .ok (.slice a (n + m) cap) w' := by
  have hzeros : (match d with | .int _ => true | _ => false) = false := by cases d <;> first | rfl | exact absurd rfl (hni _)
  unfold Builtin.append_
  simp only [h0, h1, List.getElem?_toArray, List.getElem?_cons_zero, List.getElem?_cons_succ, Sem.run_bind, run_underlying hu, run_underlying hd, Result.andThen_ok, sizeOf, run_typeInfo hi, Sem.run_pure, hzeros]
  simp only [Bool.false_eq_true, if_false, hlx, Result.andThen_ok, Sem.run_bind]
  rw [if_pos hneed]
  simp only [Sem.run_bind, run_typeInfo hi, Result.andThen_ok, Sem.run_pure, Bool.not_false, if_true, hfx]
  cases a with
  | none =>
    simp only [Result.ok.injEq, true_and] at hst
    subst hst
    simp
  | some A =>
    simp only [Sem.run_bind]
    simp only at hst
    rw [hst]
    rfl

theorem size_zeroC (z : Array Value) (n : Nat) : (Builtin.zeroCells z n).size = n * z.size := by simp [Builtin.zeroCells]

theorem loadFrom_drew (a : Addr) : ∀ (n i : Nat) (acc r : Array Value), (loadCellsFrom a i n acc).run P w = .ok r w → (loadCellsFrom a i n acc).run P w.drew = .ok r w.drew
  | 0, i, acc, r, h => by simp only [loadCellsFrom, Sem.run_pure, Result.ok.injEq, and_true] at h ⊢; exact h
  | n + 1, i, acc, r, h => by
    simp only [loadCellsFrom, Sem.run_bind, run_load, World.cell?_drew] at h ⊢
    cases hc : w.cell? (a.add i) with
    | some v => simp only [hc, Result.andThen_ok] at h ⊢; exact loadFrom_drew a n (i + 1) _ r h
    | none =>
      have hf : w.drew.farLoad P (a.add i) (Mode.plain == .atomic) = w.farLoad P (a.add i) (Mode.plain == .atomic) := rfl
      simp only [hc, hf] at h ⊢
      cases hx : w.farLoad P (a.add i) (Mode.plain == .atomic) with
      | ok p => simp only [hx, Result.andThen_ok] at h ⊢; exact loadFrom_drew a n (i + 1) _ r h
      | error e => simp [hx, Result.andThen] at h
theorem firstCells_drew {size n : Nat} {v : Value} {r : Array Value} (h : (Builtin.firstCells size n v).run P w = .ok r w) : (Builtin.firstCells size n v).run P w.drew = .ok r w.drew := by
  unfold Builtin.firstCells at h ⊢
  split at h
  · exact loadFrom_drew _ _ _ _ _ h
  · simp only [Sem.run_pure, Result.ok.injEq, and_true] at h ⊢; exact h
  · simp only [Sem.run_pure, Result.ok.injEq, and_true] at h ⊢; exact h
  · simp at h

/-- A row that has grown into new memory, with the token over what is spare. -/
theorem Inv.newOwn (hI : Inv g n0 H w) {e : TypeId} {cs : List V} {vs rest : List Value} (hr : RepL g cs vs) (hone : ∀ c ∈ cs, V.one c = true) (sz m : Nat) (hrest : rest.length = m * sz) (n : Nat) :
    ∃ g', Inv g' n0 { H with ts := H.ts ++ [some sz] } (w.alloc (.cells (vs ++ rest).toArray e)) ∧ Good n0 g w g' (w.alloc (.cells (vs ++ rest).toArray e)) ∧
      Rep g' (.row false false cs n (some H.ts.length)) (.slice (some ⟨w.heap.size, 0, none⟩) n (n + m)) := by
  have hl := hr.length
  have htake : (vs ++ rest).toArray.toList.take cs.length = vs := by rw [hl]; simp
  obtain ⟨g1, k1, k2, k3, k4, k5⟩ := hI.newRow (vs ++ rest).toArray e cs (by rw [htake]; exact hr) hone
  let t : TokI := ⟨w.heap.size, cs.length, m, sz⟩
  obtain ⟨q1, q2⟩ := k1.newTok t none (by show g1.be w.heap.size = none; rw [k4]; exact hI.fresh _ (Nat.le_refl _)) (by
    refine ⟨rfl, hI.base, by simp [Gh.addT, t], k5, (vs ++ rest).toArray, e, (0, 0), World.alloc_heap_new _ _, ?_, fun i _ _ => by simp⟩
    simp only [List.size_toArray, List.length_append, hrest]
    show cs.length + m * sz ≤ _
    omega)
  refine ⟨g1.addT H.ts.length t, q1, k2.trans q2, ?_⟩
  simp only [Rep]
  refine ⟨_, _, rfl, Nat.le_add_right _ _, by simp, by simp, by simp, by simp, ?_⟩
  intro A hA
  simp only [Option.some.injEq] at hA
  subst hA
  refine ⟨fun _ => rfl, RepC.mono q2.le _ _ _ k3, fun k hk => ?_⟩
  simp only [Option.some.injEq] at hk
  subst hk
  exact ⟨t, by simp [Gh.addT], .inr ⟨rfl, rfl, by simp [t], rfl⟩⟩

theorem Inv.newOwn' (hI : Inv g n0 H w) {e : TypeId} {cs new : List V} {vs vs' : List Value} {z : Array Value} (hr : RepL g cs vs) (hr' : RepL g new vs') (hone : ∀ c ∈ cs, V.one c = true) (hone' : ∀ c ∈ new, V.one c = true) (m n : Nat) :
    ∃ g', Inv g' n0 { H with ts := H.ts ++ [some z.size] } (w.drew.alloc (.cells (vs.toArray ++ vs'.toArray ++ Builtin.zeroCells z m) e)) ∧
      Good n0 g w g' (w.drew.alloc (.cells (vs.toArray ++ vs'.toArray ++ Builtin.zeroCells z m) e)) ∧
      Rep g' (.row false false (cs ++ new) n (some H.ts.length)) (.slice (some ⟨w.heap.size, 0, none⟩) n (n + m)) := by
  have e1 : vs.toArray ++ vs'.toArray ++ Builtin.zeroCells z m = ((vs ++ vs') ++ (Builtin.zeroCells z m).toList).toArray := by simp
  rw [e1]
  obtain ⟨g', k1, k2, k3⟩ := hI.drew.newOwn (e := e) (hr.append hr') (fun c hc => (List.mem_append.1 hc).elim (hone c) (hone' c)) z.size m (by simp [size_zeroC]) n (rest := (Builtin.zeroCells z m).toList)
  exact ⟨g', k1, (Good.drew n0 g w).trans k2, k3⟩

/-- A new block, with the cells of an append at its beginning. -/
theorem Inv.newGrown (hI : Inv g n0 H w) {e : TypeId} {cs new : List V} {vs vs' : List Value} {z : Array Value} (hr : RepL g cs vs) (hr' : RepL g new vs') (hone : ∀ c ∈ cs, V.one c = true) (hone' : ∀ c ∈ new, V.one c = true) (m n : Nat)
    (hn : cs.length + new.length = n * z.size) :
    ∃ g', Inv g' n0 (newB H (.cells (cs ++ new))) (w.drew.alloc (.cells (vs.toArray ++ vs'.toArray ++ Builtin.zeroCells z m) e)) ∧
      Good n0 g w g' (w.drew.alloc (.cells (vs.toArray ++ vs'.toArray ++ Builtin.zeroCells z m) e)) ∧
      Rep g' (.slice H.bs.length 0 n z.size) (.slice (some ⟨w.heap.size, 0, none⟩) n (n + m)) := by
  have e1 : vs.toArray ++ vs'.toArray ++ Builtin.zeroCells z m = ((vs ++ vs') ++ (Builtin.zeroCells z m).toList).toArray := by simp
  rw [e1]
  have hI1 := hI.drew
  have hle : g.le (g.addB H.bs.length w.heap.size ((n + m) * z.size)) := Gh.addB_le (hI.new _ (Nat.le_refl _))
  have hl := hr.length
  have hl' := hr'.length
  have hsz : (((vs ++ vs') ++ (Builtin.zeroCells z m).toList).toArray).size = (n + m) * z.size := by
    simp [size_zeroC, Nat.add_mul]; omega
  have hnm : n * z.size ≤ (n + m) * z.size := Nat.mul_le_mul_right _ (by omega)
  obtain ⟨k1, k2, k3⟩ := hI1.newBlk (.cells ((vs ++ vs') ++ (Builtin.zeroCells z m).toList).toArray e) (.cells (cs ++ new)) ((n + m) * z.size) (by
    refine ⟨by simp [Gh.addB], fun o => hI1.noG (Nat.le_refl _) o, _, e, (0, 0), World.alloc_heap_new _ _, by rw [hsz]; simp; omega, fun i x hx => ?_, fun i _ => by simp,
      by simp [Gh.addB]; omega, by rw [hsz]; simp [Gh.addB], fun i _ => by simp⟩
    obtain ⟨v, hv, hrv⟩ := (hr.append hr').get hx
    refine ⟨(List.mem_append.1 (List.mem_of_getElem? hx)).elim (hone x) (hone' x), v, ?_, hrv.mono hle⟩
    have hi : i < (vs ++ vs').length := (List.getElem?_eq_some_iff.1 hv).1
    simp only [List.getElem?_toArray]
    rw [List.getElem?_append_left hi]
    exact hv)
  refine ⟨_, k1, (Good.drew n0 g w).trans k2, ?_⟩
  simp only [Rep]
  exact ⟨_, _, k3, rfl, by omega, by simp [Gh.addB]⟩

theorem appendEB_run {ts : Array TypeId} {t0 t1 e : TypeId} {d : TypeDesc} (h0 : ts[0]? = some t0) (h1 : ts[1]? = some t1) (hu : P.underlying t0 = some (.slice e))
    (hd : P.underlying t1 = some d) (hni : ∀ k, d ≠ .int k) {s x y : V} {H' : Heap} (h : appendEB P H e s x = some (y, H')) (hI : Inv g n0 H w) {vs vx : Value} (rs : Rep g s vs) (rx : Rep g x vx) (ty : TypeId) :
    ∃ g' w' u, (Builtin.append_ ts ty #[vs, vx]).run P w = .ok u w' ∧ Good n0 g w g' w' ∧ Inv g' n0 H' w' ∧ Rep g' y u := by
  unfold appendEB at h
  split at h
  · rename_i i z hi hz
    obtain ⟨i2, zv, hi2, hzv, hr, hz1, hzl, hzs⟩ := zeroCs_run hz g
    rw [hi] at hi2
    simp only [Option.some.injEq] at hi2
    subst hi2
    split at h
    · rename_i new m hnew hm
      obtain ⟨new', n1, n2, m', n3, n4, n5, n6⟩ := sliceCells_rep (P := P) hnew hI rx
      rw [hm] at n6
      simp only [Option.some.injEq] at n6
      subst n6
      have n5d : (Builtin.firstCells i.size m vx).run P w.drew = .ok new'.toArray w.drew := firstCells_drew n5
      have none0 : new.length = m * i.size → m = 0 → ∀ (a : Option Addr) (n cap : Nat), vs = .slice a n cap → n ≤ cap → (Builtin.append_ ts ty #[vs, vx]).run P w = .ok vs w := by
        intro c4 hm0 a n cap hvs hc
        subst hm0 hvs
        have hn0 : new' = [] := List.eq_nil_of_length_eq_zero (by rw [← n1.length, c4]; simp)
        subst hn0
        exact append_fits h0 h1 hu hd hni hi ty n3 n5 (by omega) (by cases a <;> simp [storeCells])
      split at h
      · rename_i nl fl cs n tok
        split at h
        · rename_i hc
          obtain ⟨c1, c2, c3, c4⟩ := hc
          have rs0 := rs
          simp only [Rep] at rs
          obtain ⟨a, cap, rfl, r1, r2, r3, r4, r5, r6⟩ := rs
          split at h
          · rename_i hm0
            simp only [Option.some.injEq, Prod.mk.injEq] at h
            obtain ⟨rfl, rfl⟩ := h
            exact ⟨g, w, _, none0 c4 hm0 _ _ _ rfl r1, Good.refl _ _ _, hI, rs0⟩
          · rename_i hm0
            split at h
            · rename_i hnf
              simp only [Option.some.injEq, Prod.mk.injEq] at h
              obtain ⟨rfl, rfl⟩ := h
              have hcap : cap = n := by
                simp only [Bool.or_eq_true] at hnf
                rcases hnf with hx | hx
                · have := (r3 hx).2; omega
                · exact r2 hx
              obtain ⟨cs', o1, o2, n', o3, o4, o5, o6⟩ := sliceCells_rep (P := P) (size := i.size) (x := .row nl fl cs n tok) (cs := cs) (by simp [sliceCells, c1]) hI rs0
              simp only [lenO, Option.some.injEq] at o6
              subst o6
              have o5d : (Builtin.firstCells i.size n (.slice a n cap)).run P w.drew = .ok cs'.toArray w.drew := firstCells_drew o5
              obtain ⟨g', k1, k2, k3⟩ := hI.newGrown (e := e) (z := zv.cells) o1 n1 o2 n2 (grownCap w (n + m) cap e - (n + m)) (n + m) (by rw [hzs, c1, c4, Nat.add_mul])
              have hcap := grownCap_ge w (n + m) cap e
              refine ⟨g', _, _, append_grow h0 h1 hu hd hni hi hzv ty n3 (fun _ => trivial) o5d n5d (by omega) c3, k2, k1, ?_⟩
              rw [show n + m + (grownCap w (n + m) cap e - (n + m)) = grownCap w (n + m) cap e by omega, hzs] at k3
              exact k3
            · cases h
        · cases h
      · rename_i a off n sz
        split at h
        · rename_i cs ha
          split at h
          · rename_i hc
            obtain ⟨rfl, rfl, c1, c2, c3, c4⟩ := hc
            have rs0 := rs
            simp only [Rep] at rs
            obtain ⟨B, cap, hmu, rfl, r1, r2⟩ := rs
            split at h
            · rename_i hm0
              simp only [Option.some.injEq, Prod.mk.injEq] at h
              obtain ⟨rfl, rfl⟩ := h
              exact ⟨g, w, _, none0 c4 hm0 _ _ _ rfl r1, Good.refl _ _ _, hI, rs0⟩
            · rename_i hm0
              simp only [Option.some.injEq, Prod.mk.injEq] at h
              obtain ⟨rfl, rfl⟩ := h
              have halt : a < H.bs.length := (List.getElem?_eq_some_iff.1 ha).1
              by_cases hneed : n + m ≤ cap
              · obtain ⟨B', hmu', hn, hbe, hG, arr, e', fz, hh, hsz, hcs, hf, hcp1, hcp2, hcp3⟩ := hI.blk a _ ha
                rw [hmu] at hmu'
                simp only [Option.some.injEq] at hmu'
                subst hmu'
                have hnl : new'.length = m * i.size := by rw [← n1.length, c4]
                have hmul : (n + m) * i.size ≤ cap * i.size := Nat.mul_le_mul_right _ hneed
                rw [Nat.add_mul] at hmul
                obtain ⟨w', arr', e1, e2, e3, e4, e5⟩ := storeCells_run (P := P) B (n * i.size) e' fz new' 0 arr w hh (by omega) (fun j hj => hcp3 _ (by omega)) (fun c hcm => by
                  obtain ⟨j, hj⟩ := List.mem_iff_getElem?.1 hcm
                  have hlt : j < new.length := by rw [n1.length]; exact (List.getElem?_eq_some_iff.1 hj).1
                  obtain ⟨z', hz', hrz⟩ := n1.get (i := j) (x := new[j]) (by simp [hlt])
                  rw [hj] at hz'
                  simp only [Option.some.injEq] at hz'
                  subst hz'
                  exact one_rep (n2 _ (List.getElem_mem hlt)) hrz)
                simp only [Nat.add_zero] at e5
                have hle : g.le (g.addB H.bs.length B (g.cp a)) := Gh.addB_le (hI.new _ (Nat.le_refl _))
                obtain ⟨k1, k2⟩ := hI.moveBlk (.cells (cs ++ new)) halt hmu hn hbe hG e2 (by
                  refine ⟨by simp [Gh.addB], hG, arr', e', fz, e3, by rw [e4]; simp only [List.length_append]; omega, fun j x hx => ?_, fun j hj => hcp3 j (by simp only [List.length_append] at hj; omega),
                    by simp [Gh.addB]; omega, by rw [e4]; simpa [Gh.addB] using hcp2, by simpa [Gh.addB] using hcp3⟩
                  rw [e5]
                  rw [List.getElem?_append] at hx
                  split at hx
                  · rename_i hj
                    obtain ⟨p, v, q, r⟩ := hcs j x hx
                    exact ⟨p, v, by rw [if_neg (by omega)]; exact q, r.mono hle⟩
                  · rename_i hj
                    have hj2 : j - cs.length < new.length := (List.getElem?_eq_some_iff.1 hx).1
                    obtain ⟨v, hv, hrv⟩ := n1.get hx
                    refine ⟨n2 x (List.mem_of_getElem? hx), v, ?_, hrv.mono hle⟩
                    rw [if_pos (by omega), ← c1]
                    exact hv)
                refine ⟨_, w', .slice (some ⟨B, 0, none⟩) (n + m) cap, ?_, k2, k1, ?_⟩
                · refine append_fits h0 h1 hu hd hni hi ty n3 n5 hneed ?_
                  simp only [add_none, Nat.zero_add]
                  exact e1
                · simp only [Rep]
                  exact ⟨B, cap, by simp [Gh.addB], rfl, hneed, by simpa [Gh.addB] using r2⟩
              · obtain ⟨cs', o1, o2, n', o3, o4, o5, o6⟩ := sliceCells_rep (P := P) (size := i.size) (x := .slice a 0 n i.size) (cs := cs) (by simp [sliceCells, ha, ← c1]) hI rs0
                simp only [lenO, Option.some.injEq] at o6
                subst o6
                have o5d : (Builtin.firstCells i.size n (.slice (some ⟨B, 0, none⟩) n cap)).run P w.drew = .ok cs'.toArray w.drew := firstCells_drew o5
                obtain ⟨g', k1, k2, k3⟩ := (hI.killBlk a).newGrown (e := e) (z := zv.cells) o1 n1 o2 n2 (grownCap w (n + m) cap e - (n + m)) (n + m) (by rw [hzs, c1, c4, Nat.add_mul])
                have hcap := grownCap_ge w (n + m) cap e
                refine ⟨g', _, _, append_grow h0 h1 hu hd hni hi hzv ty n3 (fun _ => trivial) o5d n5d (by omega) c3, k2, k1, ?_⟩
                rw [show n + m + (grownCap w (n + m) cap e - (n + m)) = grownCap w (n + m) cap e by omega, hzs] at k3
                simpa using k3
          · cases h
        · cases h
      · cases h
    · cases h
  · cases h

theorem appendV_run {ts : Array TypeId} {s x y : V} {H' : Heap} {blk : Bool} (h : appendV P H blk ts s x = some (y, H')) (hI : Inv g n0 H w) {vs vx : Value} (rs : Rep g s vs) (rx : Rep g x vx) (ty : TypeId) :
    ∃ g' w' u, (Builtin.append_ ts ty #[vs, vx]).run P w = .ok u w' ∧ Good n0 g w g' w' ∧ Inv g' n0 H' w' ∧ Rep g' y u := by
  unfold appendV at h
  split at h
  · rename_i t0 t1 h0 h1
    split at h
    · rename_i e d he hd
      split at h
      · cases h
      rename_i hnd
      have hni : ∀ k, d ≠ .int k := by
        intro k hk
        subst hk
        exact hnd rfl
      split at h
      · exact appendEB_run h0 h1 (run_underlying_slice he) hd hni h hI rs rx ty
      have h2 := h
      clear h
      unfold appendE at h2
      split at h2
      · rename_i i z hi hz
        obtain ⟨i2, zv, hi2, hzv, hr, hz1, hzl, hzs⟩ := zeroCs_run hz g
        rw [hi] at hi2
        simp only [Option.some.injEq] at hi2
        subst hi2
        have hu := run_underlying_slice he
        split at h2
        · rename_i new m hnew hm
          obtain ⟨new', n1, n2, m', n3, n4, n5, n6⟩ := sliceCells_rep (P := P) hnew hI rx
          rw [hm] at n6
          simp only [Option.some.injEq] at n6
          subst n6
          split at h2
          · rename_i nl fl cs n tok
            split at h2
            · rename_i hc
              obtain ⟨c1, c2, c3, c4⟩ := hc
              have rs0 := rs
              simp only [Rep] at rs
              obtain ⟨a, cap, rfl, r1, r2, r3, r4, r5, r6⟩ := rs
              split at h2
              · rename_i hm0
                subst hm0
                simp only [Option.some.injEq, Prod.mk.injEq] at h2
                obtain ⟨rfl, rfl⟩ := h2
                have hn0 : new' = [] := List.eq_nil_of_length_eq_zero (by rw [← n1.length, c4]; simp)
                subst hn0
                refine ⟨g, w, _, append_fits h0 h1 hu hd hni hi ty n3 n5 (by omega) (by cases a <;> simp [storeCells]), Good.refl _ _ _, hI, rs0⟩
              · rename_i hm0
                -- the row's cells, as they lie
                obtain ⟨cs', o1, o2, n', o3, o4, o5, o6⟩ := sliceCells_rep (P := P) (size := i.size) (x := .row nl fl cs n tok) (cs := cs) (by simp [sliceCells, c1]) hI rs0
                simp only [lenO, Option.some.injEq] at o6
                subst o6
                have o5d : (Builtin.firstCells i.size n (.slice a n cap)).run P w.drew = .ok cs'.toArray w.drew := firstCells_drew o5
                have n5d : (Builtin.firstCells i.size m vx).run P w.drew = .ok new'.toArray w.drew := firstCells_drew n5
                have grow : cap < n + m → ∀ ts0, Inv g n0 { H with ts := ts0 } w → ∃ g' w' u, (Builtin.append_ ts ty #[.slice a n cap, vx]).run P w = .ok u w' ∧ Good n0 g w g' w' ∧
                    Inv g' n0 { H with ts := ts0 ++ [some i.size] } w' ∧ Rep g' (.row false false (cs ++ new) (n + m) (some ts0.length)) u := by
                  intro hneed ts0 hI0
                  obtain ⟨g', k1, k2, k3⟩ := hI0.newOwn' (e := e) (z := zv.cells) o1 n1 o2 n2 (grownCap w (n + m) cap e - (n + m)) (n + m)
                  have hcap := grownCap_ge w (n + m) cap e
                  refine ⟨g', _, _, append_grow h0 h1 hu hd hni hi hzv ty n3 (fun _ => trivial) o5d n5d hneed c3, k2, by rw [hzs] at k1; exact k1, ?_⟩
                  rw [show n + m + (grownCap w (n + m) cap e - (n + m)) = grownCap w (n + m) cap e by omega] at k3
                  exact k3
                split at h2
                · rename_i k
                  split at h2
                  · rename_i sz hk
                    split at h2
                    · rename_i hsz
                      simp only [Option.some.injEq, Prod.mk.injEq] at h2
                      obtain ⟨rfl, rfl⟩ := h2
                      by_cases hneed : n + m ≤ cap
                      · cases a with
                        | none => have := (r5 rfl).2; cases this
                        | some A =>
                          obtain ⟨s1, s2, s3⟩ := r6 A rfl
                          obtain ⟨B, o, sp⟩ := A
                          simp only at s1 s2 s3
                          obtain ⟨t, t1, t234⟩ := s3 k rfl
                          obtain ⟨t', t1', hrel⟩ := hI.tok k sz hk
                          have hsp0 : sp = none ∧ t.B = B ∧ t.e = o + cs.length ∧ cap = n + t.m := by
                            rcases t234 with hz | h
                            · exfalso
                              rw [t1] at t1'
                              simp only [Option.some.injEq] at t1'
                              subst t1'
                              have := hrel.1
                              omega
                            · exact h
                          obtain ⟨s1, t2, t3, t4⟩ := hsp0
                          subst s1
                          rw [t1] at t1'
                          simp only [Option.some.injEq] at t1'
                          subst t1'
                          have hrel0 := hrel
                          obtain ⟨b1, b2, b3, b4, arr, e', fz, b5, b6, b7⟩ := hrel
                          subst hsz
                          have hnl : new'.length = m * i.size := by rw [← n1.length, c4]
                          have hmul : m * i.size ≤ t.m * i.size := Nat.mul_le_mul_right _ (by omega)
                          rw [t2] at b5
                          obtain ⟨w', arr', e1, e2, e3, e4, e5⟩ := storeCells_run (P := P) B t.e e' fz new' 0 arr w b5 (by omega) (fun j hj => b7 _ (by omega) (by omega)) (fun c hcm => by
                            obtain ⟨j, hj⟩ := List.mem_iff_getElem?.1 hcm
                            have hlt : j < new.length := by rw [n1.length]; exact (List.getElem?_eq_some_iff.1 hj).1
                            obtain ⟨z', hz', hrz⟩ := n1.get (i := j) (x := new[j]) (by simp [hlt])
                            rw [hj] at hz'
                            simp only [Option.some.injEq] at hz'
                            subst hz'
                            exact one_rep (n2 _ (List.getElem_mem hlt)) hrz)
                          simp only [Nat.add_zero] at e5
                          have hte : t.e = o + n * i.size := by rw [t3, c1]
                          have e2' : But t.B w w' := by rw [t2]; exact e2
                          have e3' : w'.heap[t.B]? = some (.cells arr' e' fz) := by rw [t2]; exact e3
                          obtain ⟨q1, q2⟩ := hI.growRow hk t1 hrel0 arr' e' fz e2' e3' new'.length (fun oo hoo => by
                            rw [e5, if_neg (by omega), t2, cell_of_heap b5])
                          generalize hg1 : g.addG t.B (fun o => if o < t.e then g.G t.B o else if o < t.e + new'.length then arr'[o]? else none) = g1 at q1 q2
                          have hbe1 : g1.be = g.be := by rw [← hg1]; rfl
                          let t'' : TokI := ⟨B, t.e + new'.length, t.m - m, i.size⟩
                          have hsub : (t.m - m) * i.size = t.m * i.size - m * i.size := Nat.sub_mul _ _ _
                          obtain ⟨p1, p2⟩ := q1.newTok t'' (some k) (by show g1.be B = _; rw [hbe1, ← t2]; exact b3) (by
                            refine ⟨rfl, by show n0 ≤ B; rw [← t2]; exact b2, by simp [Gh.addT, t''], fun oo hoo => ?_, arr', e', fz, e3, ?_, fun ii hi1 hi2 => ?_⟩
                            · show g1.G B oo = none
                              have hoo' : t.e + new'.length ≤ oo := hoo
                              rw [← hg1]
                              simp only [Gh.addG, t2, if_true]
                              rw [if_neg (by omega), if_neg (by omega)]
                            · show t.e + new'.length + (t.m - m) * i.size ≤ _
                              rw [e4, hsub]; omega
                            · have hi1' : t.e + new'.length ≤ ii := hi1
                              exact b7 ii (by omega) (by omega))
                          refine ⟨g1.addT H.ts.length t'', w', .slice (some ⟨B, o, none⟩) (n + m) cap, ?_, q2.trans (by simpa using p2), ?_, ?_⟩
                          · refine append_fits h0 h1 hu hd hni hi ty n3 n5 hneed ?_
                            simp only [add_none, ← hte]
                            exact e1
                          · have := p1
                            simp only [dropTok, List.set_set, List.length_set] at this
                            exact this
                          · have hle2 : g.le (g1.addT H.ts.length t'') := by
                              have := q2.le.trans p2.le
                              simpa using this
                            simp only [Rep]
                            refine ⟨_, _, rfl, by omega, by simp, by simp, by simp, by simp, ?_⟩
                            intro A hA
                            simp only [Option.some.injEq] at hA
                            subst hA
                            refine ⟨fun _ => rfl, RepC.append (RepC.mono hle2 _ _ _ s2) ?_, fun k' hk' => ?_⟩
                            · rw [RepC.iff]
                              intro j y hy
                              obtain ⟨v, hv, hrv⟩ := n1.get hy
                              have hjl : j < new'.length := (List.getElem?_eq_some_iff.1 hv).1
                              refine ⟨v, ?_, hrv.mono hle2, n2 y (List.mem_of_getElem? hy)⟩
                              show g1.G B _ = _
                              rw [← hg1]
                              simp only [Gh.addG, t2, if_true]
                              rw [if_neg (by omega), if_pos (by omega), e5, if_pos (by omega)]
                              rw [show o + cs.length + j - t.e = j by omega]
                              exact hv
                            · simp only [Option.some.injEq] at hk'
                              subst hk'
                              refine ⟨t'', by simp [Gh.addT], .inr ⟨rfl, rfl, ?_, ?_⟩⟩
                              · show t.e + new'.length = _
                                simp only [List.length_append]
                                rw [t3, n1.length]
                                omega
                              · show cap = n + m + (t.m - m)
                                omega
                      · obtain ⟨g', w', u, a1, a2, a3, a4⟩ := grow (by omega) _ (hI.killTok k)
                        exact ⟨g', w', u, a1, a2, a3, by simpa using a4⟩
                    · cases h2
                  · cases h2
                · split at h2
                  · rename_i hnf
                    simp only [Option.some.injEq, Prod.mk.injEq] at h2
                    obtain ⟨rfl, rfl⟩ := h2
                    have hcap : cap = n := by
                      simp only [Bool.or_eq_true] at hnf
                      rcases hnf with hx | hx
                      · have := (r3 hx).2; omega
                      · exact r2 hx
                    exact grow (by omega) H.ts hI
                  · cases h2
            · cases h2
          · cases h2
        · cases h2
      · cases h2
    · cases h
  · cases h

end Go.Ab
