/- More of the walk's rules: made slices, texts as blocks of bytes. -/
import Derived.Test.YtdfpmhgfmmcopaaDoorAbsMore
import Derived.Test.YtdfpmhgfmmcopaaDoorAbsDraw
set_option linter.unusedVariables false
set_option linter.unusedSimpArgs false
set_option linter.unusedSectionVars false
set_option linter.deprecated false
namespace Go.Ab
set_option maxRecDepth 100000
/-- a slice type's element: how many cells, bytes, and its zero value -/
def mkz (P : Program) (t : TypeId) : Option (Nat × Nat × List V) := match elemOfSlice P t with
  | some e => match P.info? e, zeroCs P e with
    | some i, some z => some (i.size, i.bytes, z)
    | _, _ => none
  | none => none
theorem mkz_some {P : Program} {t : TypeId} {sz by' : Nat} {z : List V} (h : mkz P t = some (sz, by', z)) : ∃ e i, elemOfSlice P t = some e ∧ P.info? e = some i ∧ zeroCs P e = some z ∧ i.size = sz ∧ i.bytes = by' := by
  unfold mkz at h
  split at h <;> (try (cases h; done))
  rename_i e he
  split at h <;> (try (cases h; done))
  rename_i i z' hi hz
  simp only [Option.some.injEq, Prod.mk.injEq] at h
  obtain ⟨h1, h2, h3⟩ := h
  exact ⟨e, i, he, hi, by rw [hz, h3], h1, h2⟩
section
variable {P : Program} {h : Heap} {t : TypeId} {k k' : IntKind}
@[simp] theorem lst_get2 {α : Type} (A B : List α) (b : α) : (A ++ (B ++ [b]))[A.length + B.length]? = some b := by
  rw [← List.append_assoc, ← List.length_append]; simp
@[simp] theorem lst_set2 {α : Type} (A B : List α) (b x : α) : (A ++ (B ++ [b])).set (A.length + B.length) x = A ++ (B ++ [x]) := by
  rw [← List.append_assoc, ← List.length_append, lst_set, List.append_assoc]
/-- both ways come to the same -/
theorem wpc_both {c : Cfg} {a b : Code} {s : St} {K : List Fr} {Q : Ax → St → Prop} {G : Prop} {x : Bool} (h : G) (h1 : G → wp c a s K Q) (h2 : G → wp c b s K Q) : wpc c (.bool x) a b s K Q :=
  wpc_split c (fun _ => h1 h) (fun _ => h2 h)
def mkRow (h : Heap) (c : Int) : Option (Nat × Nat × List V) → Option (V × Heap)
  | some (sz, b, _) => if (0 ≤ c ∧ c ≤ 4294967296) ∧ b ≤ 16384 ∧ 0 < sz then some (.row false false [] 0 (some h.ts.length), ⟨h.bs, h.ts ++ [some sz]⟩) else none
  | none => none
def mkBlk (h : Heap) (c : Int) : Option (Nat × Nat × List V) → Option (V × Heap)
  | some (sz, b, z) => if (0 ≤ c ∧ c ≤ 4294967296) ∧ b ≤ 16384 ∧ 0 < sz then some (.slice h.bs.length 0 c.toNat sz, newB h (.cells ((List.replicate c.toNat z).flatten))) else none
  | none => none
attribute [simp] mkRow mkBlk
theorem mkz_none {P : Program} {t : TypeId} (h : mkz P t = none) (hh : Heap) (lc : Bool) (l c : V) : makeSliceV P hh t lc l c = none := by
  unfold mkz at h
  unfold makeSliceV
  cases he : elemOfSlice P t with
  | none => rfl
  | some e =>
    rw [he] at h
    simp only at h
    cases intOf? l <;> cases intOf? c <;> (try rfl)
    simp only
    cases hi : P.info? e <;> cases hz : zeroCs P e <;> rw [hi, hz] at h <;> first | rfl | cases h
@[simp] theorem make_row {c : Int} : makeSliceV P h t true (.int k 0) (.int k' c) = mkRow h c (mkz P t) := by
  cases hm : mkz P t with
  | none => rw [mkz_none hm]; rfl
  | some x =>
    obtain ⟨sz, b, z⟩ := x
    obtain ⟨e, i, h1, h2, h3, h4, h5⟩ := mkz_some hm
    unfold makeSliceV
    simp only [intOf?, h1, h2, h3, mkRow]
    by_cases hc : (0 ≤ c ∧ c ≤ 4294967296) ∧ b ≤ 16384 ∧ 0 < sz
    · rw [if_pos hc, if_pos ⟨by omega, by omega, by simp [smallRow]; omega, by omega⟩]
      simp [h4]
    · rw [if_neg hc, if_neg]
      rintro ⟨a1, a2, a3, a4⟩
      simp [smallRow] at a3
      omega
@[simp] theorem make_blk {n : Int} : makeSliceV P h t false (.int k n) (.int k' n) = mkBlk h n (mkz P t) := by
  cases hm : mkz P t with
  | none => rw [mkz_none hm]; rfl
  | some x =>
    obtain ⟨sz, b, z⟩ := x
    obtain ⟨e, i, h1, h2, h3, h4, h5⟩ := mkz_some hm
    unfold makeSliceV
    simp only [intOf?, h1, h2, h3, mkBlk]
    by_cases hc : (0 ≤ n ∧ n ≤ 4294967296) ∧ b ≤ 16384 ∧ 0 < sz
    · rw [if_pos hc, if_pos ⟨by omega, by omega, by simp [smallRow]; omega, by omega⟩]
      simp [h4]
    · rw [if_neg hc, if_neg]
      rintro ⟨a1, a2, a3, a4⟩
      simp [smallRow] at a3
      omega
@[simp] theorem lenV_raw {a b : Bool} {cs : List V} {n : Nat} {tok : Option Nat} : lenV P h t (.row a b cs n tok) = lenD n (P.underlying t) := by
  unfold lenV lenD
  cases P.underlying t with
  | none => rfl
  | some d => cases d <;> rfl
def idxArr (a off : Nat) (i : Int) : Option (Nat × Nat) → Option V
  | some (n, s) => if 0 ≤ i ∧ i.toNat < n then some (.ptr a (off + i.toNat * s)) else none
  | none => none
attribute [simp] idxArr
@[simp] theorem indexAddr_ptr {a off : Nat} {i : Int} : indexAddrV P t (.ptr a off) (.int k i) = idxArr a off i (arrz P t) := by
  unfold indexAddrV idxArr arrz
  simp only [intOf?]
  cases P.underlying t with
  | none => rfl
  | some d => cases d <;> (try rfl)
              rename_i n e
              simp only
              cases szO P e <;> rfl
@[simp] theorem eqV_bb {b : Bool} {x y : Bool} (ht : P.underlying t = some .bool) : eqV P b t (.bool x) (.bool y) = some (x == y) := by
  unfold eqV; rw [ht]
theorem rows_replicate {α : Type} {E : α → List V} (n : Nat) (x : α) : rows E (List.replicate n x) = (List.replicate n (E x)).flatten := by
  unfold rows; rw [List.flatMap_def, List.map_replicate]
theorem flat_rep1 (n : Nat) (v : V) : (List.replicate n [v]).flatten = List.replicate n v := by
  induction n with
  | zero => rfl
  | succ n ih => rw [List.replicate_succ, List.flatten_cons, ih]; rfl
theorem rowsI_rep (n : Nat) (x : Int) : List.replicate n (V.int .i64 x) = rows eI (List.replicate n x) := by rw [rows_replicate]; exact (flat_rep1 _ _).symm
theorem rowsBo_rep (n : Nat) (x : Bool) : List.replicate n (V.bool x) = rows eBo (List.replicate n x) := by rw [rows_replicate]; exact (flat_rep1 _ _).symm
theorem rowsS_rep (n : Nat) (x : List UInt8) : List.replicate n (V.str x) = rows eS (List.replicate n x) := by rw [rows_replicate]; exact (flat_rep1 _ _).symm
/-! Texts as blocks of bytes -/
def isBb (P : Program) (t : TypeId) : Bool := match P.underlying t with
  | some (.slice e) => match P.underlying e, bytesO P e with
    | some (.int .u8), some _ => true
    | _, _ => false
  | _ => false
theorem cells_eB : ∀ s : List UInt8, cellsOfBytes s = rows eB s
  | [] => rfl
  | b :: s => by
    show V.int .u8 b.toNat :: cellsOfBytes s = _
    rw [cells_eB s]; rfl
@[simp] theorem conv_sb {src dst : TypeId} (h1 : P.underlying src = some .string) (h2 : isBb P dst = true) {s : List UInt8} : convV P h src dst (.str s) = some (.slice h.bs.length 0 s.length 1, newB h (.cells (rows eB s))) := by
  unfold isBb at h2
  unfold convV
  split at h2
  · rename_i e he
    simp only [h1, he]
    split at h2
    · rename_i b hu hb
      simp only [hu, hb, cells_eB]
    · cases h2
  · cases h2
def cvB (h : Heap) (n : Nat) : Option Blk → Option (V × Heap)
  | some (.cells cs) => if n ≤ cs.length then (bytesOfCells (cs.take n)).map (fun s => (.str s, h)) else none
  | some (.frozen cs) => if n ≤ cs.length then (bytesOfCells (cs.take n)).map (fun s => (.str s, h)) else none
  | _ => none
attribute [simp] cvB
@[simp] theorem conv_bs {src dst : TypeId} (h1 : isBs P src = true) (h2 : P.underlying dst = some .string) {a n : Nat} : convV P h src dst (.slice a 0 n 1) = cvB h n h.bs[a]? := by
  unfold isBs at h1
  unfold convV
  cases hs : P.underlying src with
  | none => rw [hs] at h1; cases h1
  | some d =>
    rw [hs] at h1
    cases d <;> simp only at h1 <;> (try (cases h1; done))
    rename_i e
    split at h1
    · rename_i he
      simp only [h2, he, isSl, sliceCells, if_true, Nat.mul_one, Nat.zero_add, List.drop_zero]
      cases h.bs[a]? with
      | none => rfl
      | some x => cases x <;> first | rfl | (rename_i cs; by_cases hn : n ≤ cs.length <;> simp [cvB, hn])
    · cases h1
theorem take_rows1 {α : Type} {E : α → List V} [EncC E 1] {l : List α} {n : Nat} (h : n = l.length) : (rows E l).take n = rows E l := by
  rw [List.take_of_length_le]
  rw [rows_length]; omega
theorem rows_get1 {α : Type} [Inhabited α] {E : α → List V} [hE : EncC E 1] {l : List α} {k : Nat} (h : k < l.length) : List.take 1 (List.drop k (rows E l)) = E (nth l k) := by
  have := rows_drop (E := E) k l
  rw [Nat.mul_one] at this
  rw [this, nth_drop h, rows_cons]
  have hl := hE.len (nth l k)
  rw [List.take_append_of_le_length (by omega), List.take_of_length_le (by omega)]
end
theorem rowsB_set (L : List UInt8) (i : Nat) (x : UInt8) : (rows eB L).set i (.int .u8 x.toNat) = rows eB (L.set i x) := by
  induction L generalizing i with
  | nil => simp
  | cons y L ih => cases i with
    | zero => rfl
    | succ i => simp only [rows_cons, List.set_cons_succ]; show .int .u8 y.toNat :: (rows eB L).set i _ = _; rw [ih]; rfl
theorem rowsB_set' {L : List UInt8} {i : Nat} {n : Int} (h : 0 ≤ n ∧ n ≤ 255) : (rows eB L).set i (.int .u8 n) = rows eB (L.set i (UInt8.ofNat n.toNat)) := by
  rw [← rowsB_set]
  congr 2
  rw [UInt8.toNat_ofNat']; omega
theorem rowsBo_set (L : List Bool) (i : Nat) (x : Bool) : (rows eBo L).set i (.bool x) = rows eBo (L.set i x) := by
  induction L generalizing i with
  | nil => simp
  | cons y L ih => cases i with
    | zero => rfl
    | succ i => simp only [rows_cons, List.set_cons_succ]; show .bool y :: (rows eBo L).set i _ = _; rw [ih]; rfl
theorem append_Bn {P : Program} {α : Type} {E : α → List V} {sz : Nat} {h : Heap} {fl : Fl} {l m : List α} [hE : EncC E sz] {ts : Array TypeId} {fl2 : Fl} (ht : apok P ts sz = true) (hm : ¬ m = []) (ha : (fl.1 || fl.2.1) = true) (hl : l.length + m.length ≤ 4294967296) :
    appendV P h true ts (R fl E l) (R fl2 E m) = some (.slice h.bs.length 0 (l.length + m.length) sz, newB h (.cells (rows E (l ++ m)))) := by
  obtain ⟨b, h1, h2⟩ := apok_apz ht
  exact appendB_R h1 hm ha hl h2
end Go.Ab
