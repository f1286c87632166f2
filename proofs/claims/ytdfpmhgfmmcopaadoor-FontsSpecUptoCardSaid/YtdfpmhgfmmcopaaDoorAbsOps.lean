/- The operations that give a value and leave the heap alone: what the abstract words give is what the machine's operations give. -/
import Derived.Test.YtdfpmhgfmmcopaaDoorAbsMem
import Derived.Laws.Strings
import Derived.Laws.StructEq
set_option linter.unusedVariables false
set_option linter.unusedSimpArgs false
set_option linter.unusedSectionVars false
set_option linter.deprecated false
namespace Go.Ab
open Go.RowKit (Below)
variable {P : Program} {g : Gh} {n0 : Nat} {H : Heap} {w : World}

theorem rep_int {k : IntKind} {n : Int} {v : Value} (h : Rep g (.int k n) v) : v = .int k n := by simpa [Rep] using h
theorem rep_bool {b : Bool} {v : Value} (h : Rep g (.bool b) v) : v = .bool b := by simpa [Rep] using h
theorem rep_str {s : List UInt8} {v : Value} (h : Rep g (.str s) v) : v = .string ⟨s.toArray⟩ := by simpa [Rep] using h
theorem Rep.int (k : IntKind) (n : Int) : Rep g (.int k n) (.int k n) := by simp [Rep]
theorem Rep.bool (b : Bool) : Rep g (.bool b) (.bool b) := by simp [Rep]
theorem Rep.str (s : List UInt8) : Rep g (.str s) (.string ⟨s.toArray⟩) := by simp [Rep]
theorem Rep.undef (v : Value) : Rep g .undef v := by simp [Rep]
theorem Rep.tuple0 : Rep g (.tuple []) Go.undef := by simp only [Rep, Go.undef]; exact ⟨#[], rfl, RepL.nil g⟩

theorem rep_one {x : V} {v : Value} (r : Rep g x v) (h : x.one = true) : v.cells.toList = [v] := by rw [one_cells h r]

theorem packV_run {t : TypeId} {cs : List V} {x : V} (h : packV P t cs = some x) {all : Array Value} {off n : Nat} (hs : szO P t = some n)
    (hr : RepL g cs ((all.toList.drop off).take n)) (hlen : off + n ≤ all.size) (w : World) : ∃ u, (part t all off).run P w = .ok u w ∧ Rep g x u := by
  unfold packV at h
  cases ha : isAggO P t with
  | none => simp [ha] at h
  | some b =>
    cases b with
    | true =>
      simp only [ha, Option.some.injEq] at h
      subst h
      refine ⟨.agg (all.extract off (off + n)), by simp [part, run_isAggO ha, run_szO hs], ?_⟩
      simp only [Rep]
      refine ⟨_, rfl, ?_⟩
      rw [Array.toList_extract]
      simpa [List.extract_eq_take_drop] using hr
    | false =>
      simp only [ha] at h
      split at h
      · rename_i v
        simp only [Option.some.injEq] at h
        subst h
        have hl := hr.length
        simp at hl
        obtain ⟨u, hu, hru⟩ := hr.get (i := 0) (x := v) (by simp)
        rw [List.getElem?_take] at hu
        split at hu
        · simp at hu
          refine ⟨u, ?_, hru⟩
          simp [part, run_isAggO ha, hu]
        · cases hu
      · cases h

theorem fieldO_inv {s : TypeId} {f fo ft n : Nat} (h : fieldO P s f = some (fo, ft, n)) : ∃ fd fs, P.underlying s = some (.struct fs) ∧ fs[f]? = some fd ∧ szO P ft = some n ∧ fd.offset = fo ∧ fd.type = ft := by
  unfold fieldO at h
  cases hf : fieldOf P s f with
  | none => simp [hf] at h
  | some fd =>
    simp only [hf, Option.map_eq_some_iff, Prod.mk.injEq] at h
    obtain ⟨m, hm, h1, h2, rfl⟩ := h
    unfold fieldOf at hf
    cases hu : P.underlying s with
    | none => simp [hu] at hf
    | some d =>
      cases d <;> simp only [hu] at hf <;> first | (cases hf; done) | skip
      exact ⟨fd, _, rfl, hf, by rw [← h2]; exact hm, h1, h2⟩

theorem fieldV_run {s : TypeId} {x y : V} {f : Nat} (h : fieldV P s x f = some y) {v : Value} (r : Rep g x v) (w : World) : ∃ u, (Instr.field s v f).run P w = .ok u w ∧ Rep g y u := by
  unfold fieldV at h
  split at h
  · rename_i fo ft n cs hf
    obtain ⟨fd, fs, hu, hfs, hs, rfl, rfl⟩ := fieldO_inv hf
    split at h
    · rename_i hl
      simp only [Rep] at r
      obtain ⟨vs, rfl, r⟩ := r
      have hlen := r.length
      simp at hlen
      obtain ⟨u, h1, h2⟩ := packV_run h (all := vs) (off := fd.offset) hs ((r.drop _).take _) (by omega) w
      refine ⟨u, ?_, h2⟩
      simp [Instr.field, run_underlying hu, hfs, asAgg, h1]
    · cases h
  · cases h

theorem indexV_run {t : TypeId} {x i y : V} (h : indexV P t x i = some y) {v vi : Value} (r : Rep g x v) (ri : Rep g i vi) (w : World) :
    ∃ u, (Instr.index t v vi).run P w = .ok u w ∧ Rep g y u := by
  unfold indexV at h
  cases i with
  | int k n =>
    have := rep_int ri
    subst this
    cases x with
    | agg cs =>
      simp only [intOf?] at h
      cases hu : P.underlying t with
      | none => simp [hu] at h
      | some d =>
        cases d <;> simp only [hu] at h <;> first | (cases h; done) | skip
        rename_i len e
        cases hs : szO P e with
        | none => simp [hs] at h
        | some sz =>
          simp only [hs] at h
          split at h
          · rename_i hc
            simp only [Rep] at r
            obtain ⟨vs, rfl, r⟩ := r
            have hlen := r.length
            simp at hlen
            obtain ⟨u, h1, h2⟩ := packV_run h (all := vs) (off := n.toNat * sz) hs ((r.drop _).take _) (by omega) w
            refine ⟨u, ?_, h2⟩
            simp [Instr.index, asIntOf, run_underlying hu, run_szO hs, h1, hc.1, show n < (len : Int) by omega]
          · cases h
    | str s =>
      simp only [intOf?] at h
      cases hu : P.underlying t with
      | none => simp [hu] at h
      | some d =>
        cases d <;> simp only [hu] at h <;> first | (cases h; done) | skip
        split at h
        · rename_i h0
          simp only [Option.map_eq_some_iff] at h
          obtain ⟨b, hb, rfl⟩ := h
          have := rep_str r
          subst this
          refine ⟨.int .u8 b.toNat, ?_, Rep.int _ _⟩
          have hb' : (⟨s.toArray⟩ : ByteArray)[n.toNat]? = some b := by
            have hl : n.toNat < s.length := (List.getElem?_eq_some_iff.1 hb).1
            have : n.toNat < (⟨s.toArray⟩ : ByteArray).size := by simpa [ByteArray.size] using hl
            rw [getElem?_pos (⟨s.toArray⟩ : ByteArray) n.toNat this]
            have he := (List.getElem?_eq_some_iff.1 hb).2
            simp only [Option.some.injEq]
            rw [← he]
            rfl
          simp [Instr.index, asIntOf, run_underlying hu, h0, hb']
        · cases h
    | _ => simp [intOf?] at h
  | _ => cases x <;> simp [intOf?] at h

theorem fieldAddrV_run {s : TypeId} {x y : V} {f : Nat} (h : fieldAddrV P s x f = some y) {v : Value} (r : Rep g x v) (w : World) :
    ∃ u, (Instr.fieldAt s v f).run P w = .ok u w ∧ Rep g y u := by
  unfold fieldAddrV at h
  split at h
  · rename_i fo ft n hf
    obtain ⟨fd, fs, hu, hfs, hs, rfl, rfl⟩ := fieldO_inv hf
    split at h
    · cases h
    · rename_i hn
      have key : ∀ B o, (Instr.fieldAt s (.pointer (some ⟨B, o, none⟩)) f).run P w = .ok (.pointer (some ⟨B, o + fd.offset, none⟩)) w := by
        intro B o
        simp [Instr.fieldAt, run_underlying hu, hfs, Instr.sureAddr, fieldPlace, run_szO hs, hn, add_none]
      cases x with
      | ptr a off =>
        simp only [Option.some.injEq] at h
        subst h
        simp only [Rep] at r
        obtain ⟨B, hmu, rfl⟩ := r
        exact ⟨_, key B off, by simp only [Rep]; exact ⟨B, hmu, rfl⟩⟩
      | rptr cs =>
        simp only [Option.some.injEq] at h
        subst h
        simp only [Rep] at r
        obtain ⟨B, o, rfl, hc⟩ := r
        exact ⟨_, key B o, by simp only [Rep]; exact ⟨B, o + fd.offset, rfl, hc.drop _⟩⟩
      | _ => simp at h
  · cases h

theorem indexAddrV_run {t : TypeId} {x i y : V} (h : indexAddrV P t x i = some y) {v vi : Value} (r : Rep g x v) (ri : Rep g i vi) (w : World) :
    ∃ u, (Instr.indexAt t v vi).run P w = .ok u w ∧ Rep g y u := by
  unfold indexAddrV at h
  cases i with
  | int k n =>
    have := rep_int ri
    subst this
    cases x with
    | row nl fl cs m tok =>
      simp only [intOf?] at h
      unfold elemOfSlice at h
      cases hu : P.underlying t with
      | none => simp [hu] at h
      | some d =>
        cases d <;> simp only [hu] at h <;> first | (cases h; done) | skip
        rename_i e
        cases hs : szO P e with
        | none => simp [hs] at h
        | some sz =>
          simp only [hs] at h
          split at h
          · rename_i hc
            simp only [Option.some.injEq] at h
            subst h
            simp only [Rep] at r
            obtain ⟨a, cap, rfl, h1, h2, h3, h4, h5, h6⟩ := r
            cases a with
            | none =>
              have hc3 := hc.2.2
              rw [(h5 rfl).1] at hc3
              simp at hc3
            | some A =>
              obtain ⟨s1, s2, s3⟩ := h6 A rfl
              obtain ⟨B, o, sp⟩ := A
              simp only at s1 s2
              have s1 := s1 (fun e => by rw [e] at hc; simp at hc)
              subst s1
              refine ⟨.pointer (some ⟨B, o + n.toNat * sz, none⟩), ?_, ?_⟩
              · simp [Instr.indexAt, asIntOf, run_underlying hu, run_szO hs, hc.1, show n < (m : Int) by omega, add_none]
              · simp only [Rep]; exact ⟨B, _, rfl, s2.drop _⟩
          · cases h
    | slice a off len sz =>
      simp only [intOf?] at h
      unfold elemOfSlice at h
      cases hu : P.underlying t with
      | none => simp [hu] at h
      | some d =>
        cases d <;> simp only [hu] at h <;> first | (cases h; done) | skip
        rename_i e
        split at h
        · rename_i hc
          simp only [Option.some.injEq] at h
          subst h
          simp only [Rep] at r
          obtain ⟨B, cap, hmu, rfl, _⟩ := r
          refine ⟨.pointer (some ⟨B, off + n.toNat * sz, none⟩), ?_, ?_⟩
          · simp [Instr.indexAt, asIntOf, run_underlying hu, run_szO hc.1, hc.2.1, show n < (len : Int) by omega, add_none]
          · simp only [Rep]; exact ⟨B, hmu, rfl⟩
        · cases h
    | ptr a off =>
      simp only [intOf?] at h
      cases hu : P.underlying t with
      | none => simp [hu] at h
      | some d =>
        cases d <;> simp only [hu] at h <;> first | (cases h; done) | skip
        rename_i len e
        cases hs : szO P e with
        | none => simp [hs] at h
        | some sz =>
          simp only [hs] at h
          split at h
          · rename_i hc
            simp only [Option.some.injEq] at h
            subst h
            simp only [Rep] at r
            obtain ⟨B, hmu, rfl⟩ := r
            refine ⟨.pointer (some ⟨B, off + n.toNat * sz, none⟩), ?_, ?_⟩
            · simp [Instr.indexAt, asIntOf, run_underlying hu, run_szO hs, Instr.sureAddr, hc.1, show n < (len : Int) by omega, add_none]
            · simp only [Rep]; exact ⟨B, hmu, rfl⟩
          · cases h
    | rptr cs =>
      simp only [intOf?] at h
      cases hu : P.underlying t with
      | none => simp [hu] at h
      | some d =>
        cases d <;> simp only [hu] at h <;> first | (cases h; done) | skip
        rename_i len e
        cases hs : szO P e with
        | none => simp [hs] at h
        | some sz =>
          simp only [hs] at h
          split at h
          · rename_i hc
            simp only [Option.some.injEq] at h
            subst h
            simp only [Rep] at r
            obtain ⟨B, o, rfl, hcs⟩ := r
            refine ⟨.pointer (some ⟨B, o + n.toNat * sz, none⟩), ?_, ?_⟩
            · simp [Instr.indexAt, asIntOf, run_underlying hu, run_szO hs, Instr.sureAddr, hc.1, show n < (len : Int) by omega, add_none]
            · simp only [Rep]; exact ⟨B, _, rfl, hcs.drop _⟩
          · cases h
    | _ => simp [intOf?] at h
  | _ => cases x <;> simp [intOf?] at h

/-! ### Numbers and texts -/
theorem ex_int {s : Sem Value} {k : IntKind} {n : Int} (h : s.run P w = .ok (.int k n) w) : ∃ u, s.run P w = .ok u w ∧ Rep g (.int k n) u := ⟨_, h, Rep.int k n⟩
theorem ex_bool {s : Sem Value} {b : Bool} (h : s.run P w = .ok (.bool b) w) : ∃ u, s.run P w = .ok u w ∧ Rep g (.bool b) u := ⟨_, h, Rep.bool b⟩
theorem ex_str {s : Sem Value} {l : List UInt8} (h : s.run P w = .ok (.string ⟨l.toArray⟩) w) : ∃ u, s.run P w = .ok u w ∧ Rep g (.str l) u := ⟨_, h, Rep.str l⟩

theorem arithI_run {op : BinOp} {t : TypeId} {k : IntKind} {a b : Int} {y : V} (h : arithI op k a b = some y) (x1 x2 : Operand) (w : World) :
    ∃ u, (do eqGuard op t x1 x2 (.int k a) (.int k b); binOp op t (.int k a) (.int k b) : Sem Value).run P w = .ok u w ∧ Rep g y u := by
  cases op <;> simp only [arithI, cmpI] at h
  all_goals first
    | (cases h; done)
    | (simp only [Option.some.injEq] at h; subst h; first | refine ex_int ?_ | refine ex_bool ?_
       simp [eqGuard_at_int, binOp, Op.intArith, Op.intCmp, Op.intBits]; done)
    | (split at h
       · cases h
       · rename_i hb
         simp only [Option.some.injEq] at h; subst h
         refine ex_int ?_
         simp [eqGuard_at_int, binOp, Op.intDiv, hb])

theorem shiftI_run {op : BinOp} {t : TypeId} {k yk : IntKind} {a b : Int} {y : V} (ho : op = .shl ∨ op = .shr) (h : shiftI op k a b = some y) (x1 x2 : Operand) (w : World) :
    ∃ u, (do eqGuard op t x1 x2 (.int k a) (.int yk b); binOp op t (.int k a) (.int yk b) : Sem Value).run P w = .ok u w ∧ Rep g y u := by
  unfold shiftI at h
  split at h
  · cases h
  · rename_i hb
    rcases ho with rfl | rfl
    · simp only [Option.some.injEq] at h; subst h
      exact ex_int (by simp [eqGuard_at_int, binOp, Op.shift, hb])
    · simp only [Option.some.injEq] at h; subst h
      exact ex_int (by simp [eqGuard_at_int, binOp, Op.shift, hb])

theorem strLess_eq : ∀ a b : List UInt8, strLess a b = Op.bytesLess a b
  | _, [] => by cases ‹List UInt8› <;> rfl
  | [], _ :: _ => rfl
  | a :: x, b :: y => by simp only [strLess, Op.bytesLess, strLess_eq x y]

theorem strOp_run {op : BinOp} {t : TypeId} {a b : List UInt8} {y : V} (h : strOp op a b = some y) (x1 x2 : Operand) (w : World) :
    ∃ u, (do eqGuard op t x1 x2 (.string ⟨a.toArray⟩) (.string ⟨b.toArray⟩); binOp op t (.string ⟨a.toArray⟩) (.string ⟨b.toArray⟩) : Sem Value).run P w = .ok u w ∧ Rep g y u := by
  cases op <;> simp only [strOp] at h
  all_goals first
    | (cases h; done)
    | (simp only [Option.some.injEq] at h; subst h; refine ex_bool ?_
       simp [eqGuard_at_string, binOp, Op.stringOp, strLess_eq]; done)
    | (split at h
       · rename_i hb
         simp only [Option.some.injEq] at h; subst h
         refine ex_str ?_
         have hs : ((⟨a.toArray⟩ : ByteArray).size : Nat) = a.length := by simp [ByteArray.size]
         have hs' : ((⟨b.toArray⟩ : ByteArray).size : Nat) = b.length := by simp [ByteArray.size]
         have : (⟨a.toArray⟩ : ByteArray) ++ (⟨b.toArray⟩ : ByteArray) = ⟨(a ++ b).toArray⟩ := by
           rw [show (⟨a.toArray⟩ : ByteArray) ++ (⟨b.toArray⟩ : ByteArray) = ByteArray.append ⟨a.toArray⟩ ⟨b.toArray⟩ from rfl]
           apply ByteArray.ext
           simp
         simp only [eqGuard_at_string, binOp, Op.stringOp, Sem.run_bind, Sem.run_pure, Result.andThen_ok, Sem.run_ite, hs, hs', this]
         rw [if_neg (by simp; omega)]
       · cases h)

/-! ### Equality -/
theorem eqCell_run {t : TypeId} {x y : V} {b : Bool} (h : eqCell P t x y = some b) {v u : Value} (rx : Rep g x v) (ry : Rep g y u) (d : Nat) (w : World) :
    (Op.equalIn (d + 1) t v u).run P w = .ok b w := by
  unfold eqCell at h
  split at h
  · rename_i hu
    have := rep_bool rx; have := rep_bool ry; subst_vars
    simp only [Option.some.injEq] at h
    simp [Op.equalIn, run_underlying hu, h]
  · rename_i hu
    have := rep_int rx; have := rep_int ry; subst_vars
    split at h
    · rename_i hk
      simp only [Option.some.injEq] at h
      simp [Op.equalIn, run_underlying hu, h, hk]
    · cases h
  · rename_i hu
    have := rep_str rx; have := rep_str ry; subst_vars
    simp only [Option.some.injEq] at h
    rw [run_equalIn_string w d t _ _ hu]
    simp [h]
  · cases h

theorem part_one {t : TypeId} {xs : Array Value} {i : Nat} {v : Value} (ha : isAggO P t = some false) (h : xs[i]? = some v) (w : World) : (part t xs i).run P w = .ok v w := by
  simp [part, run_isAggO ha, h]

theorem eqFields_run (d : Nat) : ∀ (fs : List Field) {xs ys : List V} {b : Bool} {vs us : Array Value}, eqFields P xs ys fs = some b → RepL g xs vs.toList → RepL g ys us.toList → ∀ w : World,
    (Op.eqFields (d + 1) vs us fs).run P w = .ok b w
  | [], xs, ys, b, vs, us, h, rx, ry, w => by
    simp only [eqFields, Option.some.injEq] at h
    subst h
    simp [Op.eqFields]
  | f :: fs, xs, ys, b, vs, us, h, rx, ry, w => by
    simp only [eqFields] at h
    simp only [Op.eqFields]
    split at h
    · rename_i hn
      rw [if_pos hn]
      split at h
      · rename_i x y hx hy ha
        obtain ⟨v, hv, hrv⟩ := rx.get hx
        obtain ⟨u, hu, hru⟩ := ry.get hy
        have p1 := part_one (P := P) ha (by simpa using hv) w
        have p2 := part_one (P := P) ha (by simpa using hu) w
        split at h
        · rename_i he
          have := eqCell_run he hrv hru d w
          simp only [Sem.run_bind, p1, p2, this, Result.andThen_ok]
          simp only [Bool.not_true, Bool.false_eq_true, if_false]
          exact eqFields_run d fs h rx ry w
        · rename_i he
          have := eqCell_run he hrv hru d w
          simp only [Option.some.injEq] at h
          subst h
          simp [Sem.run_bind, p1, p2, this]
        · cases h
      · cases h
    · rename_i hn
      rw [if_neg hn]
      exact eqFields_run d fs h rx ry w

/-- the machine's loop over an array's elements -/
theorem eqCell_runD {t : TypeId} {x y : V} {b : Bool} (h : eqCell P t x y = some b) {v u : Value} (rx : Rep g x v) (ry : Rep g y u) {D : Nat} (hD : 0 < D) (w : World) :
    (Op.equalIn D t v u).run P w = .ok b w := by
  obtain ⟨d, rfl⟩ : ∃ d, D = d + 1 := ⟨D - 1, by omega⟩
  exact eqCell_run h rx ry d w

theorem eqElems_run {D : Nat} (hD : 0 < D) (e : TypeId) (ha : isAggO P e = some false) {xs ys : List V} {vs us : Array Value} (rx : RepL g xs vs.toList) (ry : RepL g ys us.toList) (w : World) :
    ∀ (n s : Nat) (b : Bool), s + n = xs.length → s + n = ys.length → eqElems P e (xs.drop s) (ys.drop s) = some b →
    Sem.run P (forIn (List.range' s n) (none, ()) fun i (_ : Option Bool × Unit) => do
            let a ← part e vs (i * 1)
            let c ← part e us (i * 1)
            let r ← Op.equalIn D e a c
            if (!r) = true then pure (ForInStep.done (some false, ())) else pure (ForInStep.yield (none, ()))) w = .ok (if b then (none, ()) else (some false, ())) w
  | 0, s, b, h1, h2, h => by
    rw [List.drop_eq_nil_of_le (by omega), List.drop_eq_nil_of_le (by omega)] at h
    simp only [eqElems, Option.some.injEq] at h
    subst h
    simp
  | n + 1, s, b, h1, h2, h => by
    obtain ⟨x, hx⟩ : ∃ x, xs[s]? = some x := ⟨xs[s]'(by omega), by simp [show s < xs.length by omega]⟩
    obtain ⟨y, hy⟩ : ∃ y, ys[s]? = some y := ⟨ys[s]'(by omega), by simp [show s < ys.length by omega]⟩
    have ex : xs.drop s = x :: xs.drop (s + 1) := by
      rw [List.drop_eq_getElem_cons (by omega)]; congr 1; exact Option.some.inj ((List.getElem?_eq_getElem (by omega)).symm.trans hx)
    have ey : ys.drop s = y :: ys.drop (s + 1) := by
      rw [List.drop_eq_getElem_cons (by omega)]; congr 1; exact Option.some.inj ((List.getElem?_eq_getElem (by omega)).symm.trans hy)
    rw [ex, ey] at h
    simp only [eqElems] at h
    obtain ⟨v, hv, hrv⟩ := rx.get hx
    obtain ⟨u, hu, hru⟩ := ry.get hy
    have p1 := part_one (P := P) ha (by simpa using hv) w
    have p2 := part_one (P := P) ha (by simpa using hu) w
    simp only [List.range'_succ, List.forIn_cons, Nat.mul_one, Sem.run_bind, p1, p2, Result.andThen_ok]
    split at h
    · rename_i he
      simp only [eqCell_runD he hrv hru hD w, Result.andThen_ok, Bool.not_true, Bool.false_eq_true, if_false, Sem.run_pure]
      have := eqElems_run hD e ha rx ry w n (s + 1) b (by omega) (by omega) h
      simp only [Nat.mul_one] at this
      exact this
    · rename_i he
      simp only [Option.some.injEq] at h
      subst h
      simp [eqCell_runD he hrv hru hD w]
    · cases h

theorem run_equalIn_arr {D : Nat} (hD : 0 < D) (t e : TypeId) (len : Nat) {xs ys : List V} {vs us : Array Value} {b : Bool} (ht : P.underlying t = some (.array len e)) (ha : isAggO P e = some false) (hs : szO P e = some 1)
    (h1 : xs.length = len) (h2 : ys.length = len) (rx : RepL g xs vs.toList) (ry : RepL g ys us.toList) (h : eqElems P e xs ys = some b) (w : World) :
    (Op.equalIn (D + 1) t (.agg vs) (.agg us)).run P w = .ok b w := by
  simp only [Op.equalIn, Sem.run_bind, run_underlying ht, Result.andThen_ok, run_szO hs, Std.Legacy.Range.forIn_eq_forIn_range']
  have hsz : ({ start := 0, stop := len, step := 1, step_pos := by decide } : Std.Legacy.Range).size = len := by simp [Std.Legacy.Range.size]
  rw [hsz]
  have := eqElems_run (P := P) hD e ha rx ry w len 0 b (by omega) (by omega) (by simpa using h)
  rw [this]
  cases b <;> simp

theorem fieldsOf_eq {t : TypeId} {fs : Array Field} (hu : P.underlying t = some (.struct fs)) : P.fieldsOf t = fs := by simp [Program.fieldsOf, hu]

theorem equal_of {t : TypeId} {v u : Value} {b : Bool} {w : World} (h : ∀ D, (Op.equalIn (D + 1) t v u).run P w = .ok b w) : (Op.equal t v u).run P w = .ok b w := h 9999

set_option maxHeartbeats 4000000 in
theorem eqV_run {t : TypeId} {x y : V} {b : Bool} {x1 x2 : Operand} (h : eqV P (isConst x1 || isConst x2) t x y = some b) {v u : Value} (rx : Rep g x v) (ry : Rep g y u) (op : BinOp) (w : World) :
    (eqGuard op t x1 x2 v u).run P w = .ok () w ∧ (Op.equal t v u).run P w = .ok b w := by
  unfold eqV at h
  split at h <;> (try (simp only [Rep] at rx ry)) <;> rename_i hu
  · subst rx; subst ry
    simp only [Option.some.injEq] at h
    exact ⟨by simp [eqGuard_at_bool], equal_of fun D => by simp [Op.equalIn, run_underlying hu, h]⟩
  · subst rx; subst ry
    simp only [Option.some.injEq] at h
    exact ⟨by simp [eqGuard_at_pointer], equal_of fun D => by simp [Op.equalIn, run_underlying hu, h]⟩
  · subst rx
    obtain ⟨B, _, rfl⟩ := ry
    simp only [Option.some.injEq] at h
    exact ⟨by simp [eqGuard_at_pointer], equal_of fun D => by simp [Op.equalIn, run_underlying hu, h]⟩
  · subst rx
    obtain ⟨B, o, rfl, _⟩ := ry
    simp only [Option.some.injEq] at h
    exact ⟨by simp [eqGuard_at_pointer], equal_of fun D => by simp [Op.equalIn, run_underlying hu, h]⟩
  · subst ry
    obtain ⟨B, _, rfl⟩ := rx
    simp only [Option.some.injEq] at h
    exact ⟨by simp [eqGuard_at_pointer], equal_of fun D => by simp [Op.equalIn, run_underlying hu, h]⟩
  · subst ry
    obtain ⟨B, o, rfl, _⟩ := rx
    simp only [Option.some.injEq] at h
    exact ⟨by simp [eqGuard_at_pointer], equal_of fun D => by simp [Op.equalIn, run_underlying hu, h]⟩
  · obtain ⟨a, cap, rfl, _, _, h3, _⟩ := rx
    obtain ⟨a', cap', rfl, _, _, h3', _⟩ := ry
    obtain ⟨rfl, _⟩ := h3 (by trivial)
    obtain ⟨rfl, _⟩ := h3' (by trivial)
    simp only [Option.some.injEq] at h
    exact ⟨by simp [eqGuard_at_slice], equal_of fun D => by simp [Op.equalIn, run_underlying hu, h]⟩
  · obtain ⟨a, cap, rfl, _, _, h3, _⟩ := rx
    obtain ⟨a', cap', rfl, _, _, _, _, h5', _⟩ := ry
    obtain ⟨rfl, _⟩ := h3 (by trivial)
    split at h
    · cases h
    rename_i hk
    simp only [Option.some.injEq] at h
    refine ⟨by simp [eqGuard_at_slice], ?_⟩
    cases a' with
    | none => obtain ⟨e1, e2⟩ := h5' rfl; exact absurd (by simp [e1, e2]) hk
    | some A => exact equal_of fun D => by simp [Op.equalIn, run_underlying hu, h]
  · obtain ⟨a, cap, rfl, _, _, h3, _, h5, _⟩ := rx
    obtain ⟨a', cap', rfl, _, _, h3', h4', _⟩ := ry
    obtain ⟨rfl, _⟩ := h3' (by trivial)
    split at h
    · cases h
    rename_i hk
    simp only [Option.some.injEq] at h
    refine ⟨by simp [eqGuard_at_slice], ?_⟩
    cases a with
    | none => obtain ⟨e1, e2⟩ := h5 rfl; exact absurd (by simp [e1, e2]) hk
    | some A => exact equal_of fun D => by simp [Op.equalIn, run_underlying hu, h]
  · obtain ⟨B, cap, _, rfl, _⟩ := rx
    obtain ⟨a', cap', rfl, _, _, h3', h4', _⟩ := ry
    obtain ⟨rfl, _⟩ := h3' (by trivial)
    simp only [Option.some.injEq] at h
    exact ⟨by simp [eqGuard_at_slice], equal_of fun D => by simp [Op.equalIn, run_underlying hu, h]⟩
  · obtain ⟨B, cap, _, rfl, _⟩ := ry
    obtain ⟨a', cap', rfl, _, _, h3', h4', _⟩ := rx
    obtain ⟨rfl, _⟩ := h3' (by trivial)
    simp only [Option.some.injEq] at h
    exact ⟨by simp [eqGuard_at_slice], equal_of fun D => by simp [Op.equalIn, run_underlying hu, h]⟩
  · subst rx; subst ry
    simp only [Option.some.injEq] at h
    exact ⟨by simp [eqGuard_at_map], equal_of fun D => by simp [Op.equalIn, run_underlying hu, h]⟩
  · subst ry
    obtain ⟨B, _, rfl⟩ := rx
    simp only [Option.some.injEq] at h
    exact ⟨by simp [eqGuard_at_map], equal_of fun D => by simp [Op.equalIn, run_underlying hu, h]⟩
  · subst rx
    obtain ⟨B, _, rfl⟩ := ry
    simp only [Option.some.injEq] at h
    exact ⟨by simp [eqGuard_at_map], equal_of fun D => by simp [Op.equalIn, run_underlying hu, h]⟩
  · subst rx; subst ry
    simp only [Option.some.injEq] at h
    exact ⟨by simp [eqGuard_at_nilFunc], equal_of fun D => by simp [Op.equalIn, run_underlying hu, h]⟩
  · subst ry
    obtain ⟨_, _, rfl, _⟩ := rx
    simp only [Option.some.injEq] at h
    exact ⟨by simp [eqGuard_at_func], equal_of fun D => by simp [Op.equalIn, run_underlying hu, h]⟩
  · subst rx
    obtain ⟨_, _, rfl, _⟩ := ry
    simp only [Option.some.injEq] at h
    exact ⟨by simp [eqGuard_at_nilFunc], equal_of fun D => by simp [Op.equalIn, run_underlying hu, h]⟩
  · subst rx; subst ry
    split at h
    · rename_i hc
      simp only [Option.some.injEq] at h
      refine ⟨?_, equal_of fun D => by simp [Op.equalIn, run_underlying hu, h]⟩
      cases x1 <;> cases x2 <;> simp [isConst] at hc <;> cases op <;> simp [eqGuard]
    · cases h
  · subst ry
    obtain ⟨_, rfl, _⟩ := rx
    simp only [Option.some.injEq] at h
    exact ⟨by simp [eqGuard_at_iface], equal_of fun D => by simp [Op.equalIn, run_underlying hu, h]⟩
  · subst rx
    obtain ⟨_, rfl, _⟩ := ry
    simp only [Option.some.injEq] at h
    exact ⟨by simp [eqGuard_nil_iface], equal_of fun D => by simp [Op.equalIn, run_underlying hu, h]⟩
  · obtain ⟨vs, rfl, rx⟩ := rx
    obtain ⟨us, rfl, ry⟩ := ry
    split at h
    · cases h
    · rename_i hc
      simp only [Bool.or_eq_true, not_or, Bool.not_eq_true] at hc
      refine ⟨run_eqGuard_agg w op t x1 x2 vs us hc.1, ?_⟩
      have hu2 : P.underlying t = some (.struct (P.fieldsOf t)) := by simp only [Program.fieldsOf, hu]
      show (Op.equalIn (9999 + 1) t _ _).run P w = _
      rw [run_equalIn_struct w 9999 t vs us hu2 hc.2]
      rw [fieldsOf_eq hu]
      exact eqFields_run 9998 _ h rx ry w
  · obtain ⟨vs, rfl, rx⟩ := rx
    obtain ⟨us, rfl, ry⟩ := ry
    split at h
    · cases h
    · rename_i hc
      split at h
      · rename_i hd
        exact ⟨run_eqGuard_agg w op t x1 x2 vs us (by simpa using hc), run_equalIn_arr (D := 9999) (by decide) t _ _ hu hd.1 hd.2.1 hd.2.2.1 hd.2.2.2 rx ry h w⟩
      · cases h
  · cases h

theorem eqV_bin {t : TypeId} {x y : V} {b c : Bool} (h : eqV P c t x y = some b) {v u : Value} (rx : Rep g x v) (ry : Rep g y u) :
    binOp .eql t v u = (do pure (.bool (← Op.equal t v u))) ∧ binOp .neq t v u = (do pure (.bool (!(← Op.equal t v u)))) := by
  unfold eqV at h
  split at h <;> first | (cases h; done) | skip
  all_goals
    simp only [Rep] at rx ry
    first
      | (subst rx; subst ry; exact ⟨rfl, rfl⟩)
      | (subst rx; obtain ⟨_, rfl, _⟩ := ry; exact ⟨rfl, rfl⟩)
      | (subst ry; obtain ⟨_, rfl, _⟩ := rx; exact ⟨rfl, rfl⟩)
      | (subst rx; obtain ⟨_, _, rfl⟩ := ry; exact ⟨rfl, rfl⟩)
      | (subst ry; obtain ⟨_, _, rfl⟩ := rx; exact ⟨rfl, rfl⟩)
      | (subst rx; obtain ⟨_, _, rfl, _⟩ := ry; exact ⟨rfl, rfl⟩)
      | (subst ry; obtain ⟨_, _, rfl, _⟩ := rx; exact ⟨rfl, rfl⟩)
      | (obtain ⟨_, _, rfl, _⟩ := rx; obtain ⟨_, _, rfl, _⟩ := ry; exact ⟨rfl, rfl⟩)
      | (obtain ⟨_, _, _, rfl, _⟩ := rx; obtain ⟨_, _, rfl, _⟩ := ry; exact ⟨rfl, rfl⟩)
      | (obtain ⟨_, _, rfl, _⟩ := rx; obtain ⟨_, _, _, rfl, _⟩ := ry; exact ⟨rfl, rfl⟩)
      | (obtain ⟨_, rfl, _⟩ := rx; obtain ⟨_, rfl, _⟩ := ry; exact ⟨rfl, rfl⟩)

theorem binV_run {op : BinOp} {t : TypeId} {x y z : V} {x1 x2 : Operand} (h : binV P op t (isConst x1 || isConst x2) x y = some z) {v u : Value} (rx : Rep g x v) (ry : Rep g y u) (w : World) :
    ∃ r, (do eqGuard op t x1 x2 v u; binOp op t v u : Sem Value).run P w = .ok r w ∧ Rep g z r := by
  unfold binV at h
  split at h
  · have := rep_int rx; have := rep_int ry; subst_vars
    exact shiftI_run (.inl rfl) h x1 x2 w
  · have := rep_int rx; have := rep_int ry; subst_vars
    exact shiftI_run (.inr rfl) h x1 x2 w
  · have := rep_int rx; have := rep_int ry; subst_vars
    split at h
    · rename_i hk; subst hk; exact arithI_run h x1 x2 w
    · cases h
  · have := rep_str rx; have := rep_str ry; subst_vars
    exact strOp_run h x1 x2 w
  · rename_i hno1 hno2 hno3 hno4 hno5
    simp only [Option.map_eq_some_iff] at h
    obtain ⟨b, hb, rfl⟩ := h
    obtain ⟨h1, h2⟩ := eqV_run hb rx ry .eql w
    refine ex_bool ?_
    obtain ⟨e1, _⟩ := eqV_bin hb rx ry
    simp [h1, e1, h2]
  · rename_i hno1 hno2 hno3 hno4 hno5
    simp only [Option.map_eq_some_iff] at h
    obtain ⟨b, hb, rfl⟩ := h
    obtain ⟨h1, h2⟩ := eqV_run hb rx ry .neq w
    refine ex_bool ?_
    obtain ⟨_, e1⟩ := eqV_bin hb rx ry
    simp [h1, e1, h2]
  · cases h

end Go.Ab
