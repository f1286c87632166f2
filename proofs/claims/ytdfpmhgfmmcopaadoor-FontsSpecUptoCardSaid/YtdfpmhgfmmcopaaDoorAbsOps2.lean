/- More operations: conversions, slices, lengths, greatest and least, building, maps, assertions. -/
import Derived.Test.YtdfpmhgfmmcopaaDoorAbsOps
import Derived.Laws.IdiomStrings
set_option linter.unusedVariables false
set_option linter.unusedSimpArgs false
set_option linter.unusedSectionVars false
set_option linter.deprecated false
namespace Go.Ab
open Go.RowKit (Below)
variable {P : Program} {g : Gh} {n0 : Nat} {H : Heap} {w : World}

theorem unV_run {op : UnOp} {x y : V} (h : unV op x = some y) {v : Value} (r : Rep g x v) (w : World) : ∃ u, (Op.unary op v).run P w = .ok u w ∧ Rep g y u := by
  unfold unV at h
  split at h
  · have := rep_int r; subst this
    simp only [Option.some.injEq] at h; subst h
    exact ex_int (by simp [Op.unary, Op.intArith])
  · have := rep_bool r; subst this
    simp only [Option.some.injEq] at h; subst h
    exact ex_bool (by simp [Op.unary])
  · cases h

/-! ### The cells of a slice that is read -/
theorem RepC.reps {cs : List V} {B o : Nat} (h : RepC g cs B o) (hI : Inv g n0 H w) :
    ∃ vs, RepL g cs vs ∧ (∀ c ∈ cs, V.one c = true) ∧ ∀ (j : Nat) (u : Value), vs[j]? = some u → w.cell? ⟨B, o + j, none⟩ = some u := by
  obtain ⟨B', o', vs, h1, h2, h3, h4, h5⟩ := readP_rep (H := H) (p := .rptr cs) (n := cs.length) (cs := cs) (by simp [readP]) hI (v := .pointer (some ⟨B, o, none⟩)) (by simp only [Rep]; exact ⟨B, o, rfl, h⟩)
  simp only [Value.pointer.injEq, Option.some.injEq, Addr.mk.injEq, and_true] at h1
  obtain ⟨rfl, rfl⟩ := h1
  exact ⟨vs, h2, h4, h5⟩

theorem bytes_rep (g : Gh) (s : List UInt8) : RepL g (cellsOfBytes s) (s.map fun b => .int .u8 b.toNat) := RepL.map _ _ (fun _ => by simp [Rep]) s

theorem sliceCells_rep {size : Nat} {x : V} {cs : List V} (h : sliceCells H size x = some cs) (hI : Inv g n0 H w) {v : Value} (r : Rep g x v) :
    ∃ vs, RepL g cs vs ∧ (∀ c ∈ cs, V.one c = true) ∧ ∃ n, (Builtin.lenOf v).run P w = .ok n w ∧ cs.length = n * size ∧ (Builtin.firstCells size n v).run P w = .ok vs.toArray w ∧
      lenO x = some n := by
  cases x with
  | row nl fl l n tok =>
    simp only [sliceCells] at h
    split at h
    · rename_i hl
      simp only [Option.some.injEq] at h
      subst h
      simp only [Rep] at r
      obtain ⟨a, cap, rfl, h1, h2, h3, h4, h5, h6⟩ := r
      cases a with
      | none =>
        obtain ⟨rfl, _⟩ := h5 rfl
        refine ⟨[], RepL.nil g, by simp, n, by simp [Builtin.lenOf], by simpa using hl, by simp [Builtin.firstCells], rfl⟩
      | some A =>
        obtain ⟨s1, s2, _⟩ := h6 A rfl
        by_cases hcs : l = []
        · subst hcs
          refine ⟨[], RepL.nil g, by simp, n, by simp [Builtin.lenOf], hl, ?_, rfl⟩
          exact run_firstCells_some (P := P) w size n A n cap [] hl (fun j u hu => by simp at hu)
        obtain ⟨B, o, sp⟩ := A
        simp only at s1 s2
        have s1 := s1 hcs
        subst s1
        obtain ⟨vs, e1, e2, e3⟩ := s2.reps hI
        refine ⟨vs, e1, e2, n, by simp [Builtin.lenOf], hl, ?_, rfl⟩
        exact run_firstCells_some (P := P) w size n ⟨B, o, none⟩ n cap vs (by rw [← e1.length]; exact hl) (fun j u hu => by rw [add_none]; exact e3 j u hu)
    · cases h
  | slice a off len sz =>
    simp only [sliceCells] at h
    split at h
    · rename_i hsz
      subst hsz
      have h' : readP H (.ptr a off) (len * sz) = some cs := by
        simp only [readP]
        exact h
      simp only [Rep] at r
      obtain ⟨B, cap, hmu, rfl, hc⟩ := r
      obtain ⟨B', o', vs, h1, h2, h3, h4, h5⟩ := readP_rep h' hI (v := .pointer (some ⟨B, off, none⟩)) (by simp only [Rep]; exact ⟨B, hmu, rfl⟩)
      simp only [Value.pointer.injEq, Option.some.injEq, Addr.mk.injEq, and_true] at h1
      obtain ⟨rfl, rfl⟩ := h1
      refine ⟨vs, h2, h4, len, by simp [Builtin.lenOf], h3, ?_, rfl⟩
      exact run_firstCells_some (P := P) w sz len ⟨B, off, none⟩ len cap vs (by rw [← h2.length]; exact h3) (fun j u hu => by rw [add_none]; exact h5 j u hu)
    · cases h
  | str s =>
    simp only [sliceCells] at h
    by_cases hs : size = 1
    · subst hs
      simp only [if_true, Option.some.injEq] at h
      subst h
      have := rep_str r
      subst this
      have hsz : (⟨s.toArray⟩ : ByteArray).size = s.length := by simp [ByteArray.size]
      refine ⟨_, bytes_rep g s, ?_, s.length, by simp [Builtin.lenOf, hsz], by simp [cellsOfBytes], ?_, rfl⟩
      · intro c hc
        simp only [cellsOfBytes, List.mem_map] at hc
        obtain ⟨b, _, rfl⟩ := hc
        rfl
      · have : (⟨s.toArray⟩ : ByteArray).extract 0 s.length = ⟨s.toArray⟩ := by
          apply ByteArray.ext
          simp [ByteArray.data_extract]
        simp [Builtin.firstCells, this]
    · simp [hs] at h
  | _ => simp [sliceCells] at h

/-! ### Conversions -/
theorem bytesOfCells_run (f : Value → ByteArray → Sem (ForInStep ByteArray)) (hf : ∀ n r, f (.int .u8 n) r = pure (.yield (r.push (UInt8.ofNat n.toNat)))) :
    ∀ {cs : List V} {s : List UInt8} {vs : List Value}, bytesOfCells cs = some s → RepL g cs vs → ∀ (acc : ByteArray) (w : World),
    Sem.run P (forIn vs acc f) w = .ok ⟨acc.data ++ s.toArray⟩ w
  | [], s, vs, h, r, acc, w => by
    simp only [bytesOfCells, Option.some.injEq] at h
    subst h
    rw [RepL.nil_iff] at r
    subst r
    simp
  | c :: cs, s, [], h, r, acc, w => by simp [RepL] at r
  | c :: cs, s, v :: vs, h, r, acc, w => by
    rw [RepL.cons_iff] at r
    cases c with
    | int k n =>
      cases k with
      | u8 =>
        simp only [bytesOfCells, Option.map_eq_some_iff] at h
        obtain ⟨s', hs', rfl⟩ := h
        have := rep_int r.1
        subst this
        simp only [List.forIn_cons, Sem.run_bind, hf, Sem.run_pure, Result.andThen_ok]
        rw [bytesOfCells_run f hf hs' r.2]
        congr 1
        apply ByteArray.ext
        simp [ByteArray.push]
      | _ => simp [bytesOfCells] at h
    | _ => simp [bytesOfCells] at h

theorem run_bytesToString {x : V} {cs : List V} {s : List UInt8} (h : sliceCells H 1 x = some cs) (hb : bytesOfCells cs = some s) (hI : Inv g n0 H w)
    (hx : isSl x = true) {v : Value} (r : Rep g x v) :
    (Conv.bytesToString v).run P w = .ok (.string ⟨s.toArray⟩) w := by
  obtain ⟨vs, h1, h2, n, h3, h4, h5, h6⟩ := sliceCells_rep (P := P) h hI r
  have hv : ∃ a m c, v = .slice a m c := by
    cases x <;> simp [isSl] at hx
    · simp only [Rep] at r; obtain ⟨a, c, rfl, _⟩ := r; exact ⟨_, _, _, rfl⟩
    · simp only [Rep] at r; obtain ⟨B, c, _, rfl, _⟩ := r; exact ⟨_, _, _, rfl⟩
  obtain ⟨a, m, c, rfl⟩ := hv
  simp only [Builtin.lenOf, Sem.run_pure, Result.ok.injEq, and_true] at h3
  subst h3
  cases a with
  | none =>
    simp only [Builtin.firstCells, Sem.run_pure, Result.ok.injEq, and_true] at h5
    have : vs = [] := by have := congrArg Array.toList h5; simpa using this.symm
    subst this
    have hc0 := h1.length
    simp at hc0
    subst hc0
    simp only [bytesOfCells, Option.some.injEq] at hb
    subst hb
    rfl
  | some A =>
    simp only [Builtin.firstCells, Nat.mul_one] at h5
    simp only [Conv.bytesToString, Sem.run_bind, h5, Result.andThen_ok]
    rw [← Array.forIn_toList, show vs.toArray.toList = vs from rfl, bytesOfCells_run (P := P) _ (fun n r => rfl) hb h1 ByteArray.empty w]
    simp

theorem isSl_rep {x : V} {v : Value} (h : isSl x = true) (r : Rep g x v) : ∃ a m c, v = .slice a m c := by
  cases x <;> simp [isSl] at h
  · simp only [Rep] at r; obtain ⟨a, c, rfl, _⟩ := r; exact ⟨_, _, _, rfl⟩
  · simp only [Rep] at r; obtain ⟨B, c, _, rfl, _⟩ := r; exact ⟨_, _, _, rfl⟩

theorem convV_run {src dst : TypeId} {x y : V} {H' : Heap} (h : convV P H src dst x = some (y, H')) (hI : Inv g n0 H w) {v : Value} (r : Rep g x v) :
    ∃ g' w' u, (convert src dst v).run P w = .ok u w' ∧ Good n0 g w g' w' ∧ Inv g' n0 H' w' ∧ Rep g' y u := by
  unfold convV at h
  split at h
  · rename_i d k _ n hs hd
    have := rep_int r; subst this
    simp only [Option.some.injEq, Prod.mk.injEq] at h
    obtain ⟨rfl, rfl⟩ := h
    exact ⟨g, w, _, by simp [convert, run_underlying hs, run_underlying hd, Conv.intToInt], Good.refl _ _ _, hI, Rep.int _ _⟩
  · rename_i s hs hd
    have := rep_str r; subst this
    simp only [Option.some.injEq, Prod.mk.injEq] at h
    obtain ⟨rfl, rfl⟩ := h
    exact ⟨g, w, _, by simp [convert, run_underlying hs, run_underlying hd], Good.refl _ _ _, hI, Rep.str s⟩
  · rename_i e s hs hd
    have := rep_str r; subst this
    split at h
    · rename_i i he hb
      simp only [Option.some.injEq, Prod.mk.injEq] at h
      obtain ⟨rfl, rfl⟩ := h
      have hsz : (⟨s.toArray⟩ : ByteArray).size = s.length := by simp [ByteArray.size]
      have hrun := run_bytes_of_string (P := P) w src dst e ⟨s.toArray⟩ hs hd he
      have hcap := grownCap_ge w s.length 0 e
      rw [hsz] at hrun
      generalize grownCap w s.length 0 e = cap at hrun hcap
      generalize harr : bytesRow ⟨s.toArray⟩ cap = arr at hrun
      have hlen : s.length ≤ arr.size := by rw [← harr]; simp [bytesRow]
      have hI1 := hI.drew
      obtain ⟨k1, k2, k3⟩ := hI1.newBlk (.cells arr e (arr.size, arr.size + 1)) (.cells (cellsOfBytes s)) arr.size (by
        refine ⟨by simp [Gh.addB], fun o => hI1.noG (Nat.le_refl _) o, arr, e, _, World.alloc_heap_new _ _, by simpa [cellsOfBytes] using hlen, fun i x hx => ?_, fun i hi => by simp [cellsOfBytes] at hi; simp; omega, by simpa [Gh.addB, cellsOfBytes] using hlen, by simp [Gh.addB], fun i hi => by simp [Gh.addB] at hi; simp; omega⟩
        simp only [cellsOfBytes, List.getElem?_map, Option.map_eq_some_iff] at hx
        obtain ⟨b, hb', rfl⟩ := hx
        refine ⟨rfl, .int .u8 b.toNat, ?_, by simp [Rep]⟩
        rw [← harr]
        have hil : i < s.length := (List.getElem?_eq_some_iff.1 hb').1
        have he2 := (List.getElem?_eq_some_iff.1 hb').2
        simp [bytesRow, Array.getElem?_append, hil, he2])
      refine ⟨_, _, _, hrun, (Good.drew n0 g w).trans k2, k1, ?_⟩
      simp only [Rep]
      exact ⟨_, cap, k3, rfl, hcap, by simp [Gh.addB, ← harr, bytesRow]; omega⟩
    · cases h
  · rename_i e hs hd
    split at h
    · rename_i he
      split at h
      · rename_i hsl
        split at h
        · rename_i cs hcs
          simp only [Option.map_eq_some_iff, Prod.mk.injEq] at h
          obtain ⟨s, hb, rfl, rfl⟩ := h
          have := run_bytesToString (P := P) hcs hb hI hsl r
          refine ⟨g, w, _, ?_, Good.refl _ _ _, hI, Rep.str s⟩
          obtain ⟨a, m, c, rfl⟩ := isSl_rep hsl r
          simp only [convert, Sem.run_bind, run_underlying hs, run_underlying hd, Result.andThen_ok, run_underlying he]
          exact this
        · cases h
      · cases h
    · cases h
  · cases h

/-! ### Slice expressions -/
def RepO (g : Gh) : Option V → Option Value → Prop
  | none, none => True
  | some x, some v => Rep g x v
  | _, _ => False

theorem bound_run {n d m : Nat} {x : V} {v : Value} (h : bound n d (some x) = some m) (r : Rep g x v) (c : BoundsCode) {N : Nat} (hN : n ≤ N) (w : World) :
    (Instr.sliceBound v N c).run P w = .ok m w ∧ m ≤ n := by
  cases x <;> simp only [bound] at h <;> first | (cases h; done) | skip
  rename_i k i
  have := rep_int r; subst this
  split at h
  · rename_i hc
    simp only [Option.some.injEq] at h
    subst h
    refine ⟨?_, hc.2⟩
    simp only [Instr.sliceBound, asIntOf, Sem.run_bind, Sem.run_pure, Result.andThen_ok]
    rw [if_pos ⟨hc.1, by omega⟩]
    rfl
  · cases h

theorem sliceBounds_run {sl : Bool} {len cap m b l : Nat} {lo hi mx : Option V} {lo' hi' mx' : Option Value} (hn : len ≤ cap)
    (hm : bound len len mx = some m) (hb : bound m (if mx.isSome then m else len) hi = some b) (hl : bound b 0 lo = some l) (hno : ¬ (mx.isSome ∧ hi.isNone))
    (rlo : RepO g lo lo') (rhi : RepO g hi hi') (rmx : RepO g mx mx') (w : World) :
    (Instr.sliceBounds sl len cap lo' hi' mx').run P w = .ok (l, b, if mx.isSome then m else cap) w ∧ m ≤ len ∧ b ≤ m ∧ l ≤ b := by
  have key : ∀ (M : Nat), Sem.run P (match lo' with
      | some v => do
        let l ← Instr.sliceBound v b (if mx'.isSome then .slice3C else .sliceB)
        pure (l, b, M)
      | none => do
        let l ← pure 0
        pure (l, b, M)) w = .ok (l, b, M) w ∧ l ≤ b := by
    intro M
    cases lo with
    | none =>
      cases lo' with
      | some _ => exact rlo.elim
      | none => simp only [bound, Option.some.injEq] at hl; subst hl; exact ⟨rfl, Nat.zero_le _⟩
    | some x =>
      cases lo' with
      | none => exact rlo.elim
      | some v =>
        obtain ⟨e1, e2⟩ := bound_run (P := P) hl rlo (if mx'.isSome then .slice3C else .sliceB) (Nat.le_refl _) w
        exact ⟨by simp only [Sem.run_bind, e1, Result.andThen_ok, Sem.run_pure], e2⟩
  cases mx with
  | none =>
    cases mx' with
    | some _ => exact rmx.elim
    | none =>
      simp only [bound, Option.some.injEq] at hm
      subst hm
      cases hi with
      | none =>
        cases hi' with
        | some _ => exact rhi.elim
        | none =>
          simp [bound] at hb
          subst hb
          refine ⟨?_, Nat.le_refl _, Nat.le_refl _, (key 0).2⟩
          simp only [Instr.sliceBounds, Sem.run_bind, Sem.run_pure, Result.andThen_ok]
          exact (key cap).1
      | some x =>
        cases hi' with
        | none => exact rhi.elim
        | some v =>
          obtain ⟨e1, e2⟩ := bound_run (P := P) hb rhi (if sl then .sliceAcap else .sliceAlen) hn w
          refine ⟨?_, Nat.le_refl _, e2, (key 0).2⟩
          simp only [Instr.sliceBounds, Sem.run_bind, Sem.run_pure, Result.andThen_ok, e1]
          exact (key cap).1
  | some y =>
    cases mx' with
    | none => exact rmx.elim
    | some u =>
      obtain ⟨e0, e0'⟩ := bound_run (P := P) hm rmx (if sl then .slice3Acap else .slice3Alen) hn w
      cases hi with
      | none => exact absurd ⟨rfl, rfl⟩ hno
      | some x =>
        cases hi' with
        | none => exact rhi.elim
        | some v =>
          obtain ⟨e1, e2⟩ := bound_run (P := P) hb rhi .slice3B (Nat.le_refl _) w
          refine ⟨?_, e0', e2, (key 0).2⟩
          simp only [Instr.sliceBounds, Sem.run_bind, Sem.run_pure, Result.andThen_ok, e0, e1]
          exact (key m).1

theorem run_underlying_slice {t e : TypeId} (h : elemOfSlice P t = some e) : P.underlying t = some (.slice e) := by
  unfold elemOfSlice at h
  cases hu : P.underlying t with
  | none => simp [hu] at h
  | some d => cases d <;> simp [hu] at h; subst h; rfl

theorem bound_self {n m : Nat} {x : Option V} (h : bound n n x = some m) : m ≤ n := by
  unfold bound at h
  split at h
  · simp only [Option.some.injEq] at h; omega
  · split at h
    · simp only [Option.some.injEq] at h; omega
    · cases h
  · cases h

theorem sliceV_run {t : TypeId} {x y : V} {lo hi mx : Option V} (h : sliceV P t H x lo hi mx = some y) {v : Value} {lo' hi' mx' : Option Value} (r : Rep g x v)
    (rlo : RepO g lo lo') (rhi : RepO g hi hi') (rmx : RepO g mx mx') {n0 : Nat} {w0 : World} (hI : Inv g n0 H w0) (w : World) : ∃ u, (Instr.sliceAt t v lo' hi' mx').run P w = .ok u w ∧ Rep g y u := by
  unfold sliceV at h
  cases x with
  | str s =>
    simp only at h
    split at h
    · rename_i hu
      have := rep_str r; subst this
      cases mx' with
      | some _ => exact rmx.elim
      | none =>
        split at h
        · rename_i b hb
          split at h
          · rename_i a ha
            simp only [Option.some.injEq] at h
            subst h
            have hsz : (⟨s.toArray⟩ : ByteArray).size = s.length := by simp [ByteArray.size]
            obtain ⟨e1, e2, e3, e4⟩ := sliceBounds_run (P := P) (g := g) (sl := false) (len := s.length) (cap := s.length) (m := s.length) (mx := none) (mx' := none) (Nat.le_refl _) rfl (by simpa using hb) ha (by simp) rlo rhi trivial w
            refine ⟨.string ((⟨s.toArray⟩ : ByteArray).extract a b), ?_, ?_⟩
            · simp only [Instr.sliceAt, Instr.slice, Sem.run_bind, run_underlying hu, Result.andThen_ok, hsz, Option.isSome_none, Bool.false_eq_true, if_false, Sem.run_pure]
              rw [e1]
              simp
            · simp only [Rep]
              congr 1
              apply ByteArray.ext
              simp [ByteArray.data_extract, List.extract_eq_take_drop, List.drop_take]
          · cases h
        · cases h
    · cases h
  | row nl fl cs n tok =>
    simp only at h
    cases he : elemOfSlice P t with
    | none => simp [he] at h
    | some e =>
      simp only [he] at h
      cases hs : szO P e with
      | none => simp [hs] at h
      | some sz =>
        simp only [hs] at h
        split at h
        · rename_i hl
          split at h
          · rename_i m hm
            split at h
            · rename_i b hb
              split at h
              · rename_i a ha
                split at h
                · cases h
                · rename_i hno
                  simp only [Option.some.injEq] at h
                  subst h
                  simp only [Rep] at r
                  obtain ⟨A, cap, rfl, h1, h2, h3, h4, h5, h6⟩ := r
                  obtain ⟨e1, e2, e3, e4⟩ := sliceBounds_run (P := P) (sl := true) h1 hm hb ha hno rlo rhi rmx w
                  have hM : b ≤ (if mx.isSome then m else cap) := by split <;> omega
                  have hMs : mx.isSome = true → (if mx.isSome then m else cap) = m := fun hx => by rw [if_pos hx]
                  have hMn : mx = none → (if mx.isSome then m else cap) = cap := fun hx => by rw [hx]; rfl
                  have hM0 : cap = 0 → (if mx.isSome then m else cap) = 0 := fun hx => by split <;> omega
                  generalize (if mx.isSome = true then m else cap) = M at e1 hM hMs hMn hM0
                  have hu := run_underlying_slice he
                  refine ⟨.slice (if M = a then A else A.map (·.add (a * sz))) (b - a) (M - a), ?_, ?_⟩
                  · simp only [Instr.sliceAt, Instr.slice, Sem.run_bind, run_underlying hu, Result.andThen_ok, e1, run_szO hs, Sem.run_pure]
                  · simp only [Rep]
                    refine ⟨_, _, rfl, by omega, ?_, ?_, ?_, ?_, ?_⟩
                    · intro hf
                      simp only [Bool.or_eq_true, Bool.and_eq_true, beq_iff_eq, Option.isNone_iff_eq_none] at hf
                      rcases hf with ⟨hx, rfl⟩ | ⟨⟨rfl, hfl⟩, rfl⟩
                      · rw [hMs hx]
                      · have := h2 hfl; rw [hMn rfl]; omega
                    · intro hnl
                      obtain ⟨rfl, hc0⟩ := h3 hnl
                      have := hM0 hc0
                      subst this
                      simp
                    · intro hA
                      have hAn : A = none := by
                        cases A with
                        | none => rfl
                        | some A => by_cases hma : M = a <;> simp [hma] at hA
                      have := hM0 (h4 hAn)
                      omega
                    · intro hA
                      have hAn : A = none := by
                        cases A with
                        | none => rfl
                        | some A => by_cases hma : M = a <;> simp [hma] at hA
                      obtain ⟨hcs, htok⟩ := h5 hAn
                      subst hcs; subst htok
                      exact ⟨by simp, by simp⟩
                    · intro A' hA'
                      cases A with
                      | none => by_cases hma : M = a <;> simp [hma] at hA'
                      | some A =>
                        obtain ⟨s1, s2, s3⟩ := h6 A rfl
                        by_cases hcs : cs = []
                        · subst hcs
                          refine ⟨by simp, by simp [RepC], fun k hk => ?_⟩
                          split at hk
                          · rename_i hc
                            obtain ⟨hc1, hc2, hc3⟩ := hc
                            obtain ⟨t', t1, hz | ⟨hsp, t2, t3, t4⟩⟩ := s3 k hk
                            · exact ⟨t', t1, .inl hz⟩
                            · have hmn : mx = none := by simpa using hc1
                              have hMc := hMn hmn
                              obtain ⟨B, o, sp⟩ := A
                              simp only at hsp
                              subst hsp
                              refine ⟨t', t1, .inr ?_⟩
                              by_cases hma : M = a
                              · rw [if_pos hma] at hA'
                                simp only [Option.some.injEq] at hA'
                                subst hA'
                                exact ⟨rfl, t2, by rw [t3]; simp, by omega⟩
                              · rw [if_neg hma] at hA'
                                simp only [Option.map_some, Option.some.injEq, add_none] at hA'
                                subst hA'
                                exact ⟨rfl, t2, by rw [t3, hc3]; simp, by omega⟩
                          · cases hk
                        obtain ⟨B, o, sp⟩ := A
                        simp only at s1 s2 s3
                        have s1 := s1 hcs
                        subst s1
                        by_cases hma : M = a
                        · rw [if_pos hma] at hA'
                          simp only [Option.some.injEq] at hA'
                          subst hA'
                          have hba : b = a := by omega
                          refine ⟨fun _ => rfl, ?_, ?_⟩
                          · rw [List.drop_eq_nil_of_le (by rw [hba]; simp; omega)]
                            simp [RepC]
                          · intro k hk
                            split at hk
                            · rename_i hc
                              obtain ⟨hc1, hc2, hc3⟩ := hc
                              obtain ⟨t', t1, hz | ⟨_, t2, t3, t4⟩⟩ := s3 k hk
                              · exact ⟨t', t1, .inl hz⟩
                              have hmn : mx = none := by simpa using hc1
                              have hMc := hMn hmn
                              have hn0 : n = 0 := by omega
                              rw [hn0, Nat.zero_mul] at hl
                              have hcs : cs = [] := List.eq_nil_of_length_eq_zero hl
                              refine ⟨t', t1, .inr ⟨rfl, t2, ?_, ?_⟩⟩
                              · rw [t3, hcs]; simp
                              · omega
                            · cases hk
                        · rw [if_neg hma] at hA'
                          simp only [Option.map_some, Option.some.injEq, add_none] at hA'
                          subst hA'
                          refine ⟨fun _ => rfl, (s2.take _).drop _, ?_⟩
                          intro k hk
                          split at hk
                          · rename_i hc
                            obtain ⟨hc1, hc2, hc3⟩ := hc
                            obtain ⟨t', t1, hz | ⟨_, t2, t3, t4⟩⟩ := s3 k hk
                            · exact ⟨t', t1, .inl hz⟩
                            have hmn : mx = none := by simpa using hc1
                            have hMc := hMn hmn
                            refine ⟨t', t1, .inr ⟨rfl, t2, ?_, by omega⟩⟩
                            rw [t3, hc3, hc2]
                            simp [List.length_take, hl]
                          · cases hk
              · cases h
            · cases h
          · cases h
        · cases h
  | slice a off len sz =>
    simp only at h
    cases he : elemOfSlice P t with
    | none => simp [he] at h
    | some e =>
      simp only [he] at h
      split at h
      · rename_i hs
        split at h
        · rename_i m hm
          split at h
          · rename_i b hb
            split at h
            · rename_i l ha
              split at h
              · cases h
              · rename_i hno
                simp only [Option.some.injEq] at h
                subst h
                simp only [not_or] at hno
                simp only [Rep] at r
                obtain ⟨B, cap, hmu, rfl, hc, hcp⟩ := r
                obtain ⟨e1, e2, e3, e4⟩ := sliceBounds_run (P := P) (sl := true) hc hm hb ha hno.1 rlo rhi rmx w
                have hM : m ≤ (if mx.isSome then m else cap) := by split <;> omega
                have hu := run_underlying_slice he
                refine ⟨.slice (some ⟨B, off + l * sz, none⟩) (b - l) ((if mx.isSome then m else cap) - l), ?_, ?_⟩
                · simp only [Instr.sliceAt, Instr.slice, Sem.run_bind, run_underlying hu, Result.andThen_ok, e1, run_szO hs, Sem.run_pure]
                  rw [if_neg (by have := hno.2; omega)]
                  simp [add_none]
                · simp only [Rep]
                  refine ⟨B, _, hmu, rfl, by omega, ?_⟩
                  have hMc : (if mx.isSome then m else cap) ≤ cap := by
                    split
                    · rename_i hx
                      exact Nat.le_trans (bound_self hm) hc
                    · exact Nat.le_refl _
                  generalize (if mx.isSome then m else cap) = M at hMc hM
                  have := Nat.mul_le_mul_right sz (show l + (M - l) ≤ cap by omega)
                  rw [Nat.add_mul] at this
                  omega
            · cases h
          · cases h
        · cases h
      · cases h
  | ptr a off =>
    simp only at h
    split at h
    · rename_i n e harr
      split at h
      · rename_i sz hs
        split at h
        · rename_i m hm
          split at h
          · rename_i b hb
            split at h
            · rename_i l ha
              split at h
              · rename_i cs hbl
                split at h
                · cases h
                · rename_i hno
                  simp only [Option.some.injEq] at h
                  subst h
                  simp only [not_or] at hno
                  simp only [Rep] at r
                  obtain ⟨B, hmu, rfl⟩ := r
                  obtain ⟨e1, e2, e3, e4⟩ := sliceBounds_run (P := P) (sl := false) (Nat.le_refl n) hm hb ha hno.1.1 rlo rhi rmx w
                  have hM : m = (if mx.isSome then m else n) := by
                    split
                    · rfl
                    · rename_i hx
                      cases mx with
                      | none => simp [bound] at hm; exact hm.symm
                      | some _ => simp at hx
                  rw [← hM] at e1
                  refine ⟨.slice (some ⟨B, off + l * sz, none⟩) (b - l) (m - l), ?_, ?_⟩
                  · cases hu : P.underlying t with
                    | none => simp [hu] at harr
                    | some d =>
                      cases d <;> simp only [hu] at harr <;> first | (cases harr; done) | skip
                      · rename_i ar
                        cases hu2 : P.underlying ar with
                        | none => simp [hu2] at harr
                        | some d2 =>
                          cases d2 <;> simp only [hu2] at harr <;> first | (cases harr; done) | skip
                          simp only [Option.some.injEq, Prod.mk.injEq] at harr
                          obtain ⟨rfl, rfl⟩ := harr
                          simp only [Instr.sliceAt, Instr.slice, Sem.run_bind, run_underlying hu, run_underlying hu2, Result.andThen_ok, asAddr, e1, run_szO hs, Sem.run_pure]
                          rw [if_neg hno.1.2]
                          simp [add_none]
                      · simp only [Option.some.injEq, Prod.mk.injEq] at harr
                        obtain ⟨rfl, rfl⟩ := harr
                        simp only [Instr.sliceAt, Sem.run_bind, run_underlying hu, Result.andThen_ok, Instr.sureAddr, e1, run_szO hs, Sem.run_pure]
                        rw [if_neg hno.1.2]
                        simp [add_none]
                  · simp only [Rep]
                    refine ⟨B, _, hmu, rfl, by omega, ?_⟩
                    obtain ⟨B', hmu', _, hrel⟩ := hI.blk a _ hbl
                    obtain ⟨_, _, _, _, _, _, _, _, _, h7, _⟩ := hrel
                    have hmn : m ≤ n := bound_self hm
                    have := Nat.mul_le_mul_right sz (show l + (m - l) ≤ n by omega)
                    rw [Nat.add_mul] at this
                    have := hno.2
                    omega
              · cases h
            · cases h
          · cases h
        · cases h
      · cases h
    · cases h
  | _ => simp at h

end Go.Ab
