/- Maps. -/
import Derived.Test.YtdfpmhgfmmcopaaDoorAbsOps3
import Derived.IntWalk
set_option linter.unusedVariables false
set_option linter.unusedSimpArgs false
set_option linter.unusedSectionVars false
set_option linter.deprecated false
namespace Go.Ab
open Go.RowKit (Below)
variable {P : Program} {g : Gh} {n0 : Nat} {H : Heap} {w : World}

/-- a value that is a plain key, or a part of one -/
def plain1 : V → Bool
  | .bool _ | .int _ _ | .str _ => true
  | _ => false
def plainK : V → Bool
  | .agg xs => xs.all plain1
  | x => plain1 x

theorem plain1_det {x : V} (h : plain1 x = true) {v u : Value} (r : Rep g x v) (r' : Rep g x u) : v = u := by
  cases x <;> simp [plain1] at h <;> simp only [Rep] at r r' <;> rw [r, r']
theorem plainL_det : ∀ {xs : List V} (h : xs.all plain1 = true) {vs us : List Value} (r : RepL g xs vs) (r' : RepL g xs us), vs = us
  | [], h, vs, us, r, r' => by rw [RepL.nil_iff] at r r'; rw [r, r']
  | x :: xs, h, [], us, r, r' => by simp [RepL] at r
  | x :: xs, h, v :: vs, [], r, r' => by simp [RepL] at r'
  | x :: xs, h, v :: vs, u :: us, r, r' => by
    rw [RepL.cons_iff] at r r'
    simp only [List.all_cons, Bool.and_eq_true] at h
    rw [plain1_det h.1 r.1 r'.1, plainL_det h.2 r.2 r'.2]
theorem plainK_det {x : V} (h : plainK x = true) {v u : Value} (r : Rep g x v) (r' : Rep g x u) : v = u := by
  cases x with
  | agg xs =>
    simp only [Rep] at r r'
    obtain ⟨vs, rfl, r⟩ := r
    obtain ⟨us, rfl, r'⟩ := r'
    have := plainL_det h r r'
    rw [Array.toList_inj.1 this]
  | bool b => exact plain1_det (x := .bool b) rfl r r'
  | int k n => exact plain1_det (x := .int k n) rfl r r'
  | str s => exact plain1_det (x := .str s) rfl r r'
  | _ => simp [plainK, plain1] at h

theorem eqCell_true {t : TypeId} {x y : V} (h : eqCell P t x y = some true) : x = y ∧ plain1 x = true := by
  unfold eqCell at h
  split at h
  · simp only [Option.some.injEq, beq_iff_eq] at h; subst h; exact ⟨rfl, rfl⟩
  · split at h
    · rename_i hk
      simp only [Option.some.injEq, beq_iff_eq] at h; subst h; subst hk; exact ⟨rfl, rfl⟩
    · cases h
  · simp only [Option.some.injEq, beq_iff_eq] at h; subst h; exact ⟨rfl, rfl⟩
  · cases h
theorem eqElems_true {e : TypeId} : ∀ {xs ys : List V}, eqElems P e xs ys = some true → xs = ys ∧ xs.all plain1 = true
  | [], [], h => ⟨rfl, rfl⟩
  | x :: xs, y :: ys, h => by
    simp only [eqElems] at h
    split at h
    · rename_i he
      obtain ⟨rfl, h1⟩ := eqCell_true he
      obtain ⟨rfl, h2⟩ := eqElems_true h
      exact ⟨rfl, by simp [h1, h2]⟩
    · cases h
    · cases h
  | [], _ :: _, h => by simp [eqElems] at h
  | _ :: _, [], h => by simp [eqElems] at h
theorem eqKey_true {t : TypeId} {x y : V} (h : eqKey P t x y = some true) : x = y ∧ plainK x = true := by
  unfold eqKey at h
  split at h
  · simp only [Option.some.injEq, beq_iff_eq] at h; subst h; exact ⟨rfl, rfl⟩
  · split at h
    · rename_i hk
      simp only [Option.some.injEq, beq_iff_eq] at h; subst h; subst hk; exact ⟨rfl, rfl⟩
    · cases h
  · simp only [Option.some.injEq, beq_iff_eq] at h; subst h; exact ⟨rfl, rfl⟩
  · split at h
    · obtain ⟨rfl, h2⟩ := eqElems_true h
      exact ⟨rfl, h2⟩
    · cases h
  · cases h

/-- either the look-up compares at once, or it asks '==' -/
theorem eqKey_run {t : TypeId} {x y : V} {b : Bool} (h : eqKey P t x y = some b) {v u : Value} (rx : Rep g x v) (ry : Rep g y u) (w : World) :
    ∃ d, P.underlying t = some d ∧ (Instr.sameNow d v u = some b ∨ (Instr.sameNow d v u = none ∧ (Op.equal t v u).run P w = .ok b w)) ∧
      ((∃ n e, d = .array n e) ↔ Instr.sameNow d v u = none) := by
  unfold eqKey at h
  split at h
  · rename_i hu
    have := rep_bool rx; have := rep_bool ry; subst_vars
    simp only [Option.some.injEq] at h
    exact ⟨_, hu, .inl (by simp [Instr.sameNow, h]), by simp [Instr.sameNow]⟩
  · rename_i hu
    have := rep_int rx; have := rep_int ry; subst_vars
    split at h
    · rename_i hk
      simp only [Option.some.injEq] at h
      exact ⟨_, hu, .inl (by simp [Instr.sameNow, h, hk]), by simp [Instr.sameNow, hk]⟩
    · cases h
  · rename_i hu
    have := rep_str rx; have := rep_str ry; subst_vars
    simp only [Option.some.injEq] at h
    refine ⟨_, hu, .inl ?_, by simp [Instr.sameNow]⟩
    simp only [Instr.sameNow, beq_toListBytes, ByteArray.toList_mk, h]
  · rename_i n e xs ys hu
    split at h
    · rename_i hc
      simp only [Rep] at rx ry
      obtain ⟨vs, rfl, rx⟩ := rx
      obtain ⟨us, rfl, ry⟩ := ry
      refine ⟨_, hu, .inr ⟨rfl, run_equalIn_arr (D := 9999) (by decide) t _ _ hu hc.1 hc.2.1 hc.2.2.1 hc.2.2.2 rx ry h w⟩, by simp [Instr.sameNow]⟩
    · cases h
  · cases h

theorem RepE.tail {k v : V} {b : Nat} {es : List (V × V × Nat)} {r : MapEntry} {rs : List MapEntry} (h : RepE g ((k, v, b) :: es) (r :: rs)) :
    Rep g k r.key ∧ Rep g v r.val ∧ r.born = b ∧ RepE g es rs := by
  obtain ⟨h1, h2⟩ := h
  obtain ⟨r', e1, e2, e3, e4⟩ := h2 0 (k, v, b) (by simp)
  simp only [List.getElem?_cons_zero, Option.some.injEq] at e1
  subst e1
  exact ⟨e2, e3, e4, by simpa using h1, fun i x hx => by simpa using h2 (i + 1) x (by simpa using hx)⟩

theorem findK_at {kt : TypeId} {k : V} : ∀ {es : List (V × V × Nat)} {i : Nat} {v : V} {b : Nat}, findK P kt k es = some (some (i, v, b)) → es[i]? = some (k, v, b) ∧ plainK k = true
  | [], i, v, b, h => by simp [findK] at h
  | (k', v', b') :: es, i, v, b, h => by
    simp only [findK] at h
    split at h
    · rename_i he
      simp only [Option.some.injEq, Prod.mk.injEq] at h
      obtain ⟨rfl, rfl, rfl⟩ := h
      obtain ⟨rfl, hp⟩ := eqKey_true he
      exact ⟨by simp, hp⟩
    · split at h
      · rename_i i' v'' b'' hr
        simp only [Option.some.injEq, Prod.mk.injEq] at h
        obtain ⟨rfl, rfl, rfl⟩ := h
        have := findK_at hr
        exact ⟨by simpa using this.1, this.2⟩
      · rename_i hne
        rw [h] at hne
        exact absurd rfl (hne i v b)
    · cases h

/-- what the machine's search comes to -/
def FoundAs (r : Option (Nat × V × Nat)) (rs : List MapEntry) (j : Nat) (q : Option (Nat × Value)) : Prop :=
  match r with
  | none => q = none
  | some (i, _, _) => ∃ e, rs[i]? = some e ∧ q = some (j + i, e.val)

theorem findNow_run {kt : TypeId} {k : V} {kv : Value} (rk : Rep g k kv) {d : TypeDesc} (hd : P.underlying kt = some d) (hna : ¬ ∃ n e, d = .array n e) :
    ∀ (es : List (V × V × Nat)) (rs : List MapEntry) (j : Nat) (r : Option (Nat × V × Nat)), findK P kt k es = some r → RepE g es rs → ∃ q, Instr.findNow d kv rs j = some q ∧ FoundAs r rs j q
  | [], [], j, r, h, he => by
    simp only [findK, Option.some.injEq] at h
    subst h
    exact ⟨none, rfl, rfl⟩
  | [], _ :: _, j, r, h, he => by have := he.1; simp at this
  | _ :: _, [], j, r, h, he => by have := he.1; simp at this
  | (k', v', b') :: es, e :: rs, j, r, h, he => by
    obtain ⟨h1, h2, h3, h4⟩ := he.tail
    simp only [findK] at h
    split at h
    · rename_i hk
      simp only [Option.some.injEq] at h
      subst h
      obtain ⟨d', hd', hs, ha⟩ := eqKey_run hk rk h1 default
      rw [hd] at hd'
      simp only [Option.some.injEq] at hd'
      subst hd'
      rcases hs with hs | hs
      · exact ⟨some (j, e.val), by simp [Instr.findNow, hs], ⟨e, by simp, by simp⟩⟩
      · exact absurd (ha.2 hs.1) hna
    · rename_i hk
      obtain ⟨d', hd', hs, ha⟩ := eqKey_run hk rk h1 default
      rw [hd] at hd'
      simp only [Option.some.injEq] at hd'
      subst hd'
      rcases hs with hs | hs
      · have key : ∃ r0, findK P kt k es = some r0 ∧ r = r0.map fun x => (x.1 + 1, x.2.1, x.2.2) := by
          split at h
          · rename_i i v b hr
            simp only [Option.some.injEq] at h
            exact ⟨_, hr, by simp [← h]⟩
          · rename_i hne
            cases r with
            | none => exact ⟨none, h, rfl⟩
            | some x => exact absurd h (hne x.1 x.2.1 x.2.2)
        obtain ⟨r0, hr0, rfl⟩ := key
        obtain ⟨q, hq, hf⟩ := findNow_run rk hd hna es rs (j + 1) r0 hr0 h4
        refine ⟨q, by simp [Instr.findNow, hs, hq], ?_⟩
        cases r0 with
        | none => exact hf
        | some x =>
          obtain ⟨e', e1, e2⟩ := hf
          exact ⟨e', by simpa using e1, by rw [e2]; simp; omega⟩
      · exact absurd (ha.2 hs.1) hna
    · cases h

theorem findAsking_run {kt : TypeId} {k : V} {kv : Value} (rk : Rep g k kv) {n : Nat} {e : TypeId} (hd : P.underlying kt = some (.array n e)) (w : World) :
    ∀ (es : List (V × V × Nat)) (rs : List MapEntry) (j : Nat) (r : Option (Nat × V × Nat)), findK P kt k es = some r → RepE g es rs → ∃ q, (Instr.findAsking kt kv rs j).run P w = .ok q w ∧ FoundAs r rs j q
  | [], [], j, r, h, he => by
    simp only [findK, Option.some.injEq] at h
    subst h
    exact ⟨none, rfl, rfl⟩
  | [], _ :: _, j, r, h, he => by have := he.1; simp at this
  | _ :: _, [], j, r, h, he => by have := he.1; simp at this
  | (k', v', b') :: es, en :: rs, j, r, h, he => by
    obtain ⟨h1, h2, h3, h4⟩ := he.tail
    simp only [findK] at h
    split at h
    · rename_i hk
      simp only [Option.some.injEq] at h
      subst h
      obtain ⟨d', hd', hs, ha⟩ := eqKey_run hk rk h1 w
      rw [hd] at hd'
      simp only [Option.some.injEq] at hd'
      subst hd'
      have hno := ha.1 ⟨_, _, rfl⟩
      rcases hs with hs | hs
      · rw [hno] at hs; cases hs
      · exact ⟨some (j, en.val), by simp [Instr.findAsking, hs.2], ⟨en, by simp, by simp⟩⟩
    · rename_i hk
      obtain ⟨d', hd', hs, ha⟩ := eqKey_run hk rk h1 w
      rw [hd] at hd'
      simp only [Option.some.injEq] at hd'
      subst hd'
      have hno := ha.1 ⟨_, _, rfl⟩
      rcases hs with hs | hs
      · rw [hno] at hs; cases hs
      · have key : ∃ r0, findK P kt k es = some r0 ∧ r = r0.map fun x => (x.1 + 1, x.2.1, x.2.2) := by
          split at h
          · rename_i i v b hr
            simp only [Option.some.injEq] at h
            exact ⟨_, hr, by simp [← h]⟩
          · rename_i hne
            cases r with
            | none => exact ⟨none, h, rfl⟩
            | some x => exact absurd h (hne x.1 x.2.1 x.2.2)
        obtain ⟨r0, hr0, rfl⟩ := key
        obtain ⟨q, hq, hf⟩ := findAsking_run rk hd w es rs (j + 1) r0 hr0 h4
        refine ⟨q, by simp [Instr.findAsking, hs.2, hq], ?_⟩
        cases r0 with
        | none => exact hf
        | some x =>
          obtain ⟨e', e1, e2⟩ := hf
          exact ⟨e', by simpa using e1, by rw [e2]; simp; omega⟩
    · cases h

theorem findKey_run {kt : TypeId} {k : V} {kv : Value} (rk : Rep g k kv) (hk : keyOk P kt k = true) {es : List (V × V × Nat)} {rs : List MapEntry} {r : Option (Nat × V × Nat)}
    (h : findK P kt k es = some r) (he : RepE g es rs) (w : World) : ∃ q, (Instr.findKey kt kv rs).run P w = .ok q w ∧ FoundAs r rs 0 q := by
  cases hu : P.underlying kt with
  | none => simp [keyOk, hu] at hk
  | some d =>
    by_cases ha : ∃ n e, d = .array n e
    · obtain ⟨n, e, rfl⟩ := ha
      obtain ⟨q, h1, h2⟩ := findAsking_run rk hu w es rs 0 r h he
      cases rs with
      | nil =>
        cases es with
        | cons x l => have := he.1; simp at this
        | nil =>
          simp only [findK, Option.some.injEq] at h
          subst h
          exact ⟨none, by simp [Instr.findKey, run_underlying hu, Instr.findNow], rfl⟩
      | cons en rs =>
        refine ⟨q, ?_, h2⟩
        have hn : Instr.findNow (.array n e) kv (en :: rs) 0 = none := by
          cases es with
          | nil => have := he.1; simp at this
          | cons x l =>
            obtain ⟨k', v', b'⟩ := x
            obtain ⟨h1', _⟩ := he.tail
            simp only [findK] at h
            have hs : Instr.sameNow (.array n e) kv en.key = none := rfl
            simp [Instr.findNow, hs]
        simp [Instr.findKey, run_underlying hu, hn, h1]
    · obtain ⟨q, h1, h2⟩ := findNow_run rk hu ha es rs 0 r h he
      exact ⟨q, by simp [Instr.findKey, run_underlying hu, h1], h2⟩

theorem checkKey_elem {e : TypeId} {d : TypeDesc} (hd : P.underlying e = some d) (hb : (match d with | .bool | .int _ | .string => true | _ => false) = true) (em : Bool) {D : Nat} (hD : 0 < D) (v : Value) (w : World) :
    (Instr.checkKey em D e v).run P w = .ok () w := by
  obtain ⟨D', rfl⟩ : ∃ D', D = D' + 1 := ⟨D - 1, by omega⟩
  cases d <;> simp at hb <;> simp [Instr.checkKey, run_underlying hd]

theorem checkKey_run {kt : TypeId} {k : V} {kv : Value} (rk : Rep g k kv) (hk : keyOk P kt k = true) (em : Bool) (w : World) : (Instr.checkKey em 10000 kt kv).run P w = .ok () w := by
  show (Instr.checkKey em (9999 + 1) kt kv).run P w = .ok () w
  generalize hD : 9999 = D
  have hD0 : 0 < D := by omega
  clear hD
  unfold keyOk at hk
  split at hk
  · rename_i hu; simp [Instr.checkKey, run_underlying hu]
  · rename_i hu; simp [Instr.checkKey, run_underlying hu]
  · rename_i hu; simp [Instr.checkKey, run_underlying hu]
  · rename_i n e xs hu
    simp only [Bool.and_eq_true, beq_iff_eq] at hk
    obtain ⟨⟨⟨h1, h2⟩, h3⟩, h4⟩ := hk
    simp only [Rep] at rk
    obtain ⟨vs, rfl, rk⟩ := rk
    have hlen := rk.length
    simp at hlen
    cases hue : P.underlying e with
    | none => simp [hue] at h1
    | some d =>
      have ha : isAggO P e = some false := by
        simp only [hue] at h1
        unfold isAggO
        rw [hue]
        cases d <;> simp at h1 <;> rfl
      have hb : (match d with | .bool | .int _ | .string => true | _ => false) = true := by
        simp only [hue] at h1
        cases d <;> simp at h1 <;> rfl
      have loop : ∀ (m s : Nat) , s + m = xs.length → Sem.run P (forIn (List.range' s m) PUnit.unit fun i (_ : PUnit) => do
            let z ← sizeOf e
            let a ← part e vs (i * z)
            Instr.checkKey em D e a
            pure (ForInStep.yield PUnit.unit)) w = .ok PUnit.unit w := by
        intro m
        induction m with
        | zero => intro s hs; simp
        | succ m ih =>
          intro s hs
          obtain ⟨v, hv⟩ : ∃ v, vs[s]? = some v := ⟨vs[s]'(by omega), by simp [show s < vs.size by omega]⟩
          have p1 := part_one (P := P) ha hv w
          simp only [List.range'_succ, List.forIn_cons, Sem.run_bind, run_szO h4, Result.andThen_ok, Nat.mul_one, p1, checkKey_elem hue hb em hD0, Sem.run_pure]
          exact ih (s + 1) (by omega)
      simp only [Instr.checkKey, Sem.run_bind, run_underlying hu, Result.andThen_ok, Std.Legacy.Range.forIn_eq_forIn_range']
      have hsz : ({ start := 0, stop := n, step := 1, step_pos := by decide } : Std.Legacy.Range).size = n := by simp [Std.Legacy.Range.size]
      rw [hsz]
      rw [loop n 0 (by omega)]
      rfl
  · cases hk

theorem ofVal_list (g : Gh) : ∀ l : List Value, RepL g (l.map ofVal) l
  | [] => RepL.nil g
  | x :: l => by rw [List.map_cons, RepL.cons_iff]; exact ⟨ofVal_rep g x, ofVal_list g l⟩

theorem zeroV_run {t : TypeId} {z : V} (h : zeroV P t = some z) (g : Gh) (w : World) : ∃ v, (zeroValue t).run P w = .ok v w ∧ Rep g z v ∧ z.cellsO.isSome = true := by
  unfold zeroV at h
  cases hi : P.info? t with
  | none => simp [hi] at h
  | some i =>
    simp only [hi] at h
    cases hz : i.zero with
    | none => simp [hz] at h
    | some v =>
      simp only [hz] at h
      refine ⟨v, run_zeroValue hi hz w, ?_⟩
      unfold ofValZ at h
      split at h
      · split at h
        · rename_i cs hall
          simp only [Option.some.injEq] at h
          subst h
          exact ⟨by simp only [Rep]; exact ⟨_, rfl, ofVal_list g _⟩, by simp [V.cellsO, hall]⟩
        · cases h
      · split at h
        · rename_i hone
          simp only [Option.some.injEq] at h
          subst h
          refine ⟨ofVal_rep g v, ?_⟩
          cases hv : ofVal v <;> simp_all [V.one, V.cellsO]
        · cases h

theorem lookupV_run {t : TypeId} {m k y : V} {ok : Bool} (h : lookupV P H t m k ok = some y) (hI : Inv g n0 H w) {vm vk : Value} (rm : Rep g m vm) (rk : Rep g k vk) :
    ∃ u, (Instr.lookup t vm vk ok).run P w = .ok u w ∧ Rep g y u := by
  unfold lookupV at h
  split at h
  · rename_i kt et hu
    split at h
    · cases h
    · rename_i hk
      simp only [Bool.not_eq_true', Bool.not_eq_false] at hk
      have found : ∀ (rs : List MapEntry) (r : Option (Nat × V × Nat)) (es : List (V × V × Nat)) (q : Option (Nat × Value)), RepE g es rs → findK P kt k es = some r → FoundAs r rs 0 q →
          (match (some r : Option (Option (Nat × V × Nat))) with
            | some (some (_, v, _)) => some (if ok then .tuple [v, .bool true] else v)
            | some none => (zeroV P et).map fun z => if ok then .tuple [z, .bool false] else z
            | none => none : Option V) = some y →
          ∃ u, (do
            let (v, o) ← match q with
              | some (_, v) => pure (v, true)
              | none => pure (← zeroValue et, false)
            pure (if ok then .tuple #[v, .bool o] else v) : Sem Value).run P w = .ok u w ∧ Rep g y u := by
        intro rs r es q he hf hq hy
        cases r with
        | some x =>
          obtain ⟨i, v, b⟩ := x
          obtain ⟨e, e1, rfl⟩ := hq
          obtain ⟨hat, _⟩ := findK_at hf
          obtain ⟨e', e1', e2, e3, e4⟩ := he.2 i _ hat
          rw [e1] at e1'
          simp only [Option.some.injEq] at e1'
          subst e1'
          simp only [Option.some.injEq] at hy
          subst hy
          cases ok with
          | true =>
            refine ⟨.tuple #[e.val, .bool true], by simp, ?_⟩
            simp only [Rep, if_true]
            exact ⟨_, rfl, RepL.cons e3 (RepL.cons (Rep.bool true) (RepL.nil g))⟩
          | false => exact ⟨e.val, by simp, e3⟩
        | none =>
          simp only [FoundAs] at hq
          subst hq
          simp only [Option.map_eq_some_iff] at hy
          obtain ⟨z, hz, rfl⟩ := hy
          obtain ⟨v, v1, v2, _⟩ := zeroV_run hz g w
          cases ok with
          | true =>
            refine ⟨.tuple #[v, .bool false], by simp [v1], ?_⟩
            simp only [Rep, if_true]
            exact ⟨_, rfl, RepL.cons v2 (RepL.cons (Rep.bool false) (RepL.nil g))⟩
          | false => exact ⟨v, by simp [v1], v2⟩
      cases m with
      | nilmap =>
        simp only at h
        simp only [Rep] at rm
        subst rm
        obtain ⟨u, h1, h2⟩ := found [] none [] none ⟨rfl, by simp⟩ rfl rfl h
        obtain ⟨q, hq, hf⟩ := findKey_run (es := []) (rs := []) rk hk rfl ⟨rfl, by simp⟩ w
        simp only [FoundAs] at hf
        subst hf
        refine ⟨u, ?_, h2⟩
        simp only [Instr.lookup, Sem.run_bind, run_underlying hu, Result.andThen_ok, Sem.run_pure, checkKey_run rk hk, hq]
        simpa using h1
      | map a =>
        simp only at h
        cases hb : H.bs[a]? with
        | none => simp [hb] at h
        | some bl =>
          cases bl with
          | map es clock =>
            simp only [hb] at h
            cases hfk : findK P kt k es with
            | none => simp [hfk] at h
            | some r =>
              rw [hfk] at h
              obtain ⟨B, hmu, _, hbe, rs, hh, he⟩ := hI.blk a _ hb
              simp only [Rep] at rm
              obtain ⟨B', hmu', rfl⟩ := rm
              rw [hmu] at hmu'
              simp only [Option.some.injEq] at hmu'
              subst hmu'
              obtain ⟨q, hq, hf⟩ := findKey_run rk hk hfk he w
              obtain ⟨u, h1, h2⟩ := found rs r es q he hfk hf h
              refine ⟨u, ?_, h2⟩
              have hg : (getObj B).run P w = .ok (.map rs.toArray clock) w := by simp [getObj, Sem.run, hh]
              simp only [Instr.lookup, Sem.run_bind, run_underlying hu, Result.andThen_ok, hg, Sem.run_pure, checkKey_run rk hk, hq]
              clear hq hf found
              cases q <;> simpa using h1
          | _ => simp [hb] at h
      | _ => simp at h
  · cases h

theorem RepE.set {es : List (V × V × Nat)} {rs : List MapEntry} (h : RepE g es rs) {i b : Nat} {k v : V} {r : MapEntry} (h1 : Rep g k r.key) (h2 : Rep g v r.val) (h3 : r.born = b) :
    RepE g (es.set i (k, v, b)) (rs.set i r) := by
  refine ⟨by simp [h.1], fun j x hx => ?_⟩
  rw [List.getElem?_set] at hx ⊢
  split at hx
  · rename_i e
    subst e
    split at hx
    · rename_i hl
      simp only [Option.some.injEq] at hx
      subst hx
      exact ⟨r, by simp [← h.1, hl], h1, h2, h3⟩
    · cases hx
  · rename_i e
    rw [if_neg e]
    exact h.2 j x hx
theorem RepE.push {es : List (V × V × Nat)} {rs : List MapEntry} (h : RepE g es rs) {b : Nat} {k v : V} {r : MapEntry} (h1 : Rep g k r.key) (h2 : Rep g v r.val) (h3 : r.born = b) :
    RepE g (es ++ [(k, v, b)]) (rs ++ [r]) := by
  refine ⟨by simp [h.1], fun j x hx => ?_⟩
  rw [List.getElem?_append] at hx ⊢
  rw [← h.1]
  split at hx
  · rename_i hl; rw [if_pos hl]; exact h.2 j x hx
  · rename_i hl
    rw [if_neg hl]
    cases hj : j - es.length with
    | zero => simp [hj] at hx; subst hx; exact ⟨r, by simp, h1, h2, h3⟩
    | succ n => simp [hj] at hx

theorem sameBits_plain {x : V} (h : plain1 x = true) {v : Value} (r : Rep g x v) (n : Nat) : Instr.sameBits n v v = true := by
  cases x <;> simp [plain1] at h <;> simp only [Rep] at r <;> subst r <;> cases n <;> simp [Instr.sameBits, beq_toListBytes]
theorem sameBits_key {x : V} (h : plainK x = true) {v : Value} (r : Rep g x v) : Instr.sameBits 10000 v v = true := by
  cases x with
  | agg xs =>
    simp only [Rep] at r
    obtain ⟨vs, rfl, r⟩ := r
    show Instr.sameBits (9999 + 1) _ _ = true
    simp only [Instr.sameBits, beq_self_eq_true, Bool.true_and]
    have : ∀ (xs : List V) (l : List Value), xs.all plain1 = true → RepL g xs l → (l.zip l).all (fun (x, y) => Instr.sameBits 9999 x y) = true := by
      intro xs
      induction xs with
      | nil => intro l _ r; rw [RepL.nil_iff] at r; subst r; rfl
      | cons x xs ih =>
        intro l ha r
        cases l with
        | nil => simp [RepL] at r
        | cons v l =>
          rw [RepL.cons_iff] at r
          simp only [List.all_cons, Bool.and_eq_true] at ha
          simp only [List.zip_cons_cons, List.all_cons, Bool.and_eq_true]
          exact ⟨sameBits_plain ha.1 r.1 9999, ih l ha.2 r.2⟩
    exact this xs _ h r
  | bool b => exact sameBits_plain (x := .bool b) rfl r _
  | int k n => exact sameBits_plain (x := .int k n) rfl r _
  | str s => exact sameBits_plain (x := .str s) rfl r _
  | _ => simp [plainK, plain1] at h

theorem modify_eq {rs : List MapEntry} {i : Nat} {e : MapEntry} (h : rs[i]? = some e) (f : MapEntry → MapEntry) : (rs.toArray.modify i f) = (rs.set i (f e)).toArray := by
  have hl := (List.getElem?_eq_some_iff.1 h).1
  have he := (List.getElem?_eq_some_iff.1 h).2
  apply Array.toList_inj.1
  apply List.ext_getElem?
  intro j
  simp only [Array.toList_modify, List.getElem?_modify, List.getElem?_set]
  by_cases hj : i = j
  · subst hj; simp [hl, he]
  · simp [hj]

theorem mapUpdV_run {t : TypeId} {m k x : V} {H' : Heap} (h : mapUpdV P H t m k x = some H') (hI : Inv g n0 H w) {vm vk vx : Value} (rm : Rep g m vm) (rk : Rep g k vk) (rx : Rep g x vx) :
    ∃ w', (Instr.mapUpdate t vm vk vx).run P w = .ok () w' ∧ Good n0 g w g w' ∧ Inv g n0 H' w' := by
  unfold mapUpdV at h
  split at h
  · rename_i kt et hu
    split at h
    · cases h
    · rename_i hc
      simp only [Bool.or_eq_true, not_or, Bool.not_eq_true', Bool.not_eq_false, Bool.not_eq_true] at hc
      split at h
      · rename_i a
        split at h
        · rename_i es clock hb
          obtain ⟨B, hmu, hn, hbe, rs, hh, he⟩ := hI.blk a _ hb
          simp only [Rep] at rm
          obtain ⟨B', hmu', rfl⟩ := rm
          rw [hmu] at hmu'
          simp only [Option.some.injEq] at hmu'
          subst hmu'
          have hlt : a < H.bs.length := (List.getElem?_eq_some_iff.1 hb).1
          have hBl : B < w.heap.size := hI.own_lt hbe
          have hg : (getObj B).run P w = .ok (.map rs.toArray clock) w := by simp [getObj, Sem.run, hh]
          have hset : ∀ o, (setObj B o).run P w = .ok () (w.putObj B o) := fun o => by simp [setObj, Sem.run, hh, World.putObj]
          have hG : ∀ o, g.G B o = none := fun o => by
            cases hgo : g.G B o with
            | none => rfl
            | some v => have := hI.agree B o v hgo; simp [World.cell?, hh] at this
          have fin : ∀ (es' : List (V × V × Nat)) (rs' : List MapEntry) (clock' : Nat), RepE g es' rs' → Good n0 g w g (w.putObj B (.map rs'.toArray clock')) ∧ Inv g n0 { H with bs := H.bs.set a (.map es' clock') } (w.putObj B (.map rs'.toArray clock')) := by
            intro es' rs' clock' he'
            have := hI.updBlk (.map es' clock') hlt hmu hn hbe hG (But.putObj w B (.map rs'.toArray clock')) ⟨hbe, rs', World.putObj_heap_same hBl, he'⟩
            exact ⟨this.2, this.1⟩
          split at h
          · rename_i i v b hf
            simp only [Option.some.injEq] at h
            subst h
            obtain ⟨q, hq, e, e1, rfl⟩ := findKey_run rk hc.1 hf he w
            obtain ⟨hat, hpk⟩ := findK_at hf
            obtain ⟨e', e1', e2, e3, e4⟩ := he.2 i _ hat
            rw [e1] at e1'
            simp only [Option.some.injEq] at e1'
            subst e1'
            have hkey : e.key = vk := plainK_det hpk e2 rk
            have := fin _ _ clock (he.set (i := i) (r := { e with key := vk, val := vx }) rk rx e4)
            refine ⟨_, ?_, this⟩
            have hkeep : (Instr.keyThatStays e.key vk).run P w = .ok vk w := by
              rw [hkey]
              simp [Instr.keyThatStays, sameBits_key hpk rk]
            have hgi : (Option.map (fun x => x.key) rs.toArray[i]?).getD vk = e.key := by simp [e1]
            simp only [Instr.mapUpdate, Sem.run_bind, run_underlying hu, Result.andThen_ok, hg, checkKey_run rk hc.1, hq, Nat.zero_add, hgi, hkeep, hset]
            rw [modify_eq e1]
          · rename_i hf
            simp only [Option.some.injEq] at h
            subst h
            obtain ⟨q, hq, hf2⟩ := findKey_run rk hc.1 hf he w
            simp only [FoundAs] at hf2
            subst hf2
            have := fin _ _ (clock + 1) (he.push (r := { key := vk, val := vx, born := clock }) rk rx rfl)
            refine ⟨_, ?_, this⟩
            simp only [Instr.mapUpdate, Sem.run_bind, run_underlying hu, Result.andThen_ok, hg, checkKey_run rk hc.1, hq, hset]
            simp
          · cases h
        · cases h
      · cases h
  · cases h

end Go.Ab
