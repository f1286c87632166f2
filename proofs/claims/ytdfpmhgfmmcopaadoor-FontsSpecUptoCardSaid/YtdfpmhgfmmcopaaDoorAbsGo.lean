/- Operations on strings, rows and conversions, in the form in which simp meets them. -/
import Derived.Test.YtdfpmhgfmmcopaaDoorAbsSimp
set_option linter.unusedVariables false
set_option linter.unusedSimpArgs false
set_option linter.unusedSectionVars false
set_option linter.deprecated false
namespace Go.Ab
attribute [simp] some_if map_some_if wrap64 indexAddr_R wpc_t wpc_f ww_t ww_f if_t if_f

/-- the flags of a part of a row -/
def slf (fl : Fl) (a b n : Nat) : Fl := (fl.1, fl.2.1 && b == n, if b = n ∧ a = 0 then fl.2.2 else none)
section
variable {P : Program} {α : Type} {E : α → List V} {sz : Nat} {t e : TypeId} {h : Heap} {fl : Fl} {l : List α} {k k' : IntKind} {a b : Int}
@[simp] theorem slice_nn [hE : EncC E sz] (he : esz P t = some sz) : sliceV P t h (R fl E l) none none none = some (R (slf fl 0 l.length l.length) E l) := by
  rw [slice_R he (hi := none) (lo := none) rfl rfl]; simp [slf]
@[simp] theorem slice_ns [hE : EncC E sz] (he : esz P t = some sz) : sliceV P t h (R fl E l) none (some (.int k b)) none = if 0 ≤ b ∧ b.toNat ≤ l.length then some (R (slf fl 0 b.toNat l.length) E (l.take b.toNat)) else none := by
  by_cases hb : 0 ≤ b ∧ b.toNat ≤ l.length
  · rw [if_pos hb, slice_R he (b := b.toNat) (a := 0) (by rw [bound_int, if_pos hb]) rfl]; simp [slf]
  · rw [if_neg hb]
    unfold esz at he
    obtain ⟨e, h1, h2⟩ := Option.bind_eq_some_iff.1 he
    unfold sliceV R
    simp only [h1, h2]
    rw [if_pos (by rw [rows_length])]
    simp only [bound_none, Option.isSome_none, Bool.false_eq_true, if_false, bound_int, if_neg hb]
@[simp] theorem slice_sn [hE : EncC E sz] (he : esz P t = some sz) : sliceV P t h (R fl E l) (some (.int k a)) none none = if 0 ≤ a ∧ a.toNat ≤ l.length then some (R (slf fl a.toNat l.length l.length) E (l.drop a.toNat)) else none := by
  by_cases ha : 0 ≤ a ∧ a.toNat ≤ l.length
  · rw [if_pos ha, slice_R he (b := l.length) (a := a.toNat) rfl (by rw [bound_int, if_pos ha])]; simp [slf]
  · rw [if_neg ha]
    unfold esz at he
    obtain ⟨e, h1, h2⟩ := Option.bind_eq_some_iff.1 he
    unfold sliceV R
    simp only [h1, h2]
    rw [if_pos (by rw [rows_length])]
    simp only [bound_none, Option.isSome_none, Bool.false_eq_true, if_false, bound_int, if_neg ha]
@[simp] theorem slice_ss [hE : EncC E sz] (he : esz P t = some sz) : sliceV P t h (R fl E l) (some (.int k a)) (some (.int k' b)) none = if (0 ≤ b ∧ b.toNat ≤ l.length) ∧ (0 ≤ a ∧ a.toNat ≤ b.toNat) then some (R (slf fl a.toNat b.toNat l.length) E ((l.take b.toNat).drop a.toNat)) else none := by
  by_cases hb : 0 ≤ b ∧ b.toNat ≤ l.length
  · by_cases ha : 0 ≤ a ∧ a.toNat ≤ b.toNat
    · rw [if_pos ⟨hb, ha⟩, slice_R he (b := b.toNat) (a := a.toNat) (by rw [bound_int, if_pos hb]) (by rw [bound_int, if_pos ha])]; rfl
    · rw [if_neg fun x => ha x.2]
      unfold esz at he
      obtain ⟨e, h1, h2⟩ := Option.bind_eq_some_iff.1 he
      unfold sliceV R
      simp only [h1, h2]
      rw [if_pos (by rw [rows_length])]
      simp only [bound_none, Option.isSome_none, Bool.false_eq_true, if_false, bound_int, if_pos hb, if_neg ha]
  · rw [if_neg fun x => hb x.1]
    unfold esz at he
    obtain ⟨e, h1, h2⟩ := Option.bind_eq_some_iff.1 he
    unfold sliceV R
    simp only [h1, h2]
    rw [if_pos (by rw [rows_length])]
    simp only [bound_none, Option.isSome_none, Bool.false_eq_true, if_false, bound_int, if_neg hb]

/-! Strings -/
def isS : Option TypeDesc → Bool
  | some .string => true
  | _ => false
theorem isS_iff {d : Option TypeDesc} : isS d = true ↔ d = some .string := by
  unfold isS
  cases d with
  | none => simp
  | some d => cases d <;> simp
@[simp] theorem lenV_s {s : List UInt8} (ht : P.underlying t = some .string) : lenV P h t (.str s) = some (.int .i64 s.length) := lenV_str ht
@[simp] theorem index_s {s : List UInt8} (ht : P.underlying t = some .string) {i : Int} : indexV P t (.str s) (.int k i) = if 0 ≤ i ∧ i.toNat < s.length then some (.int .u8 (nth s i.toNat).toNat) else none := by
  unfold indexV
  simp only [intOf?, ht]
  by_cases h0 : 0 ≤ i
  · rw [if_pos h0]
    by_cases h1 : i.toNat < s.length
    · rw [if_pos ⟨h0, h1⟩, nth_some h1]; rfl
    · rw [if_neg fun x => h1 x.2, List.getElem?_eq_none (Nat.le_of_not_lt h1)]; rfl
  · rw [if_neg h0, if_neg fun x => h0 x.1]
@[simp] theorem slice_s_nn {s : List UInt8} (ht : P.underlying t = some .string) : sliceV P t h (.str s) none none none = some (.str s) := by
  unfold sliceV; simp [ht, bound]
@[simp] theorem slice_s_ns {s : List UInt8} (ht : P.underlying t = some .string) : sliceV P t h (.str s) none (some (.int k b)) none = if 0 ≤ b ∧ b.toNat ≤ s.length then some (.str (s.take b.toNat)) else none := by
  unfold sliceV
  simp only [ht, bound_int, bound_none]
  by_cases hb : 0 ≤ b ∧ b.toNat ≤ s.length
  · rw [if_pos hb, if_pos hb]; simp only [List.drop_zero]
  · rw [if_neg hb, if_neg hb]
@[simp] theorem slice_s_sn {s : List UInt8} (ht : P.underlying t = some .string) : sliceV P t h (.str s) (some (.int k a)) none none = if 0 ≤ a ∧ a.toNat ≤ s.length then some (.str (s.drop a.toNat)) else none := by
  unfold sliceV
  simp only [ht, bound_int, bound_none]
  by_cases ha : 0 ≤ a ∧ a.toNat ≤ s.length
  · rw [if_pos ha]; simp only [if_pos ha, List.take_length]
  · rw [if_neg ha]; simp only [if_neg ha]
@[simp] theorem slice_s_ss {s : List UInt8} (ht : P.underlying t = some .string) : sliceV P t h (.str s) (some (.int k a)) (some (.int k' b)) none = if (0 ≤ b ∧ b.toNat ≤ s.length) ∧ (0 ≤ a ∧ a.toNat ≤ b.toNat) then some (.str ((s.take b.toNat).drop a.toNat)) else none := by
  unfold sliceV
  simp only [ht, bound_int]
  by_cases hb : 0 ≤ b ∧ b.toNat ≤ s.length
  · by_cases ha : 0 ≤ a ∧ a.toNat ≤ b.toNat
    · simp only [if_pos hb, if_pos ha]; rw [if_pos ⟨hb, ha⟩]
    · simp only [if_pos hb, if_neg ha]; rw [if_neg fun x => ha x.2]
  · simp only [if_neg hb]; rw [if_neg fun x => hb x.1]

/-! Comparing -/
@[simp] theorem strOp_eql (a b : List UInt8) : strOp .eql a b = some (.bool (a == b)) := rfl
@[simp] theorem strOp_neq (a b : List UInt8) : strOp .neq a b = some (.bool !(a == b)) := rfl
@[simp] theorem strOp_add (a b : List UInt8) : strOp .add a b = if a.length + b.length ≤ 4611686018427387904 then some (.str (a ++ b)) else none := rfl

def ifcD : Option TypeDesc → Bool
  | some (.interface _) => true
  | _ => false
def slcD : Option TypeDesc → Bool
  | some (.slice _) => true
  | _ => false
attribute [simp] ifcD slcD typeAssertV
@[simp] theorem eqV_ii {P : Program} {t : TypeId} (h : ifcD (P.underlying t) = true) : eqV P true t .niliface .niliface = some true := by
  unfold ifcD at h; unfold eqV
  split at h
  · rename_i hu; rw [hu]; rfl
  · cases h
@[simp] theorem eqV_in {P : Program} {t : TypeId} {b : Bool} {u : TypeId} {v : V} (h : ifcD (P.underlying t) = true) : eqV P b t (.iface u v) .niliface = some false := by
  unfold ifcD at h; unfold eqV
  split at h
  · rename_i hu; rw [hu]
  · cases h
theorem eqV_rn {P : Program} {t : TypeId} {b nl f : Bool} {cs : List V} {n : Nat} {tok : Option Nat} (h : slcD (P.underlying t) = true) : eqV P b t (.row nl f cs n tok) (.row true true [] 0 none) =
    if nl then some true else if cs.isEmpty && tok.isNone then none else some false := by
  unfold slcD at h; unfold eqV
  split at h
  · rename_i hu; rw [hu]; cases nl <;> rfl
  · cases h
/-! Conversions -/
@[simp] theorem conv_int {src dst : TypeId} {n : Int} : convV P h src dst (.int k n) = match P.underlying src, P.underlying dst with
    | some _, some (.int j) => some (.int j (j.wrap n), h)
    | _, _ => none := by
  unfold convV
  cases P.underlying src <;> cases P.underlying dst <;> (try rfl)
  rename_i x y
  cases x <;> cases y <;> (try rfl)
  simp only [isSl, Bool.false_eq_true, if_false]
  split <;> rfl
theorem bytesOfCells_eB : ∀ s : List UInt8, bytesOfCells (rows eB s) = some s
  | [] => rfl
  | b :: s => by
    have : rows eB (b :: s) = .int .u8 b.toNat :: rows eB s := rfl
    rw [this]
    simp only [bytesOfCells, bytesOfCells_eB s, Option.map_some]
    simp
theorem bytesOfCells_len : ∀ {cs : List V} {s : List UInt8}, bytesOfCells cs = some s → cs.length = s.length
  | [], s, h => by simp [bytesOfCells] at h; subst h; rfl
  | c :: cs, s, h => by
    unfold bytesOfCells at h
    split at h
    · rename_i h0; cases h0
    · rename_i n r h0
      simp only [List.cons.injEq] at h0
      obtain ⟨rfl, rfl⟩ := h0
      obtain ⟨s', h1, rfl⟩ := Option.map_eq_some_iff.1 h
      simp [bytesOfCells_len h1]
    · cases h
/-- is it a row of bytes? -/
def isBs (P : Program) (t : TypeId) : Bool := match P.underlying t with
  | some (.slice e) => match P.underlying e with
    | some (.int .u8) => true
    | _ => false
  | _ => false
theorem conv_row {src dst : TypeId} (h1 : isBs P src = true) (h2 : P.underlying dst = some .string) {nl f : Bool} {cs : List V} {n : Nat} {tok : Option Nat} (hn : cs.length = n) :
    convV P h src dst (.row nl f cs n tok) = (bytesOfCells cs).map fun s => (.str s, h) := by
  unfold isBs at h1
  unfold convV
  cases hs : P.underlying src with
  | none => rw [hs] at h1; cases h1
  | some d =>
    rw [hs] at h1
    cases d <;> simp only at h1 <;> (try (cases h1; done))
    rename_i e
    split at h1
    · rename_i he
      simp [h2, he, isSl, sliceCells, hn]
    · cases h1
@[simp] theorem conv_R {src dst : TypeId} (h1 : isBs P src = true) (h2 : P.underlying dst = some .string) {s : List UInt8} : convV P h src dst (R fl eB s) = some (.str s, h) := by
  unfold R
  rw [conv_row h1 h2 (by rw [rows_length, Nat.mul_one]), bytesOfCells_eB]; rfl
end

/-! Appending -/
def apok (P : Program) (ts : Array TypeId) (sz : Nat) : Bool := match apz P ts with
  | some (a, b) => a == sz && decide (b ≤ 16384)
  | none => false
theorem apok_apz {P : Program} {ts : Array TypeId} {sz : Nat} (h : apok P ts sz = true) : ∃ b, apz P ts = some (sz, b) ∧ b ≤ 16384 := by
  unfold apok at h
  split at h
  · rename_i a b ha
    simp only [Bool.and_eq_true, beq_iff_eq, decide_eq_true_eq] at h
    obtain ⟨rfl, h2⟩ := h
    exact ⟨b, ha, h2⟩
  · cases h
attribute [simp] apok
@[simp] theorem append_R1 {P : Program} {α : Type} {E : α → List V} {sz : Nat} {h : Heap} {fl : Fl} {l : List α} [hE : EncC E sz] {ts : Array TypeId} {fl2 : Fl} {x : α} (ht : apok P ts sz = true) (ha : App h.ts sz fl) (hl : l.length + 1 ≤ 4294967296) :
    appendV P h false ts (R fl E l) (R fl2 E [x]) = some (R (false, false, some h.ts.length) E (l ++ [x]), bump h fl.2.2 sz) := by
  obtain ⟨b, h1, h2⟩ := apok_apz ht
  exact append_R h1 (by simp) ha (by simpa using hl) h2
theorem append_Rm {P : Program} {α : Type} {E : α → List V} {sz : Nat} {h : Heap} {fl : Fl} {l : List α} [hE : EncC E sz] {ts : Array TypeId} {fl2 : Fl} {m : List α} (ht : apok P ts sz = true) (ha : App h.ts sz fl) (hl : l.length + m.length ≤ 4294967296) :
    ∃ fl' h', appendV P h false ts (R fl E l) (R fl2 E m) = some (R fl' E (l ++ m), h') ∧ App h'.ts sz fl' ∧ h'.bs = h.bs ∧
      (∀ sz2 (f2 : Fl), App h.ts sz2 f2 → (f2.2.2 = none ∨ f2.2.2 ≠ fl.2.2) → App h'.ts sz2 f2 ∧ (f2.2.2 = none ∨ f2.2.2 ≠ fl'.2.2)) := by
  obtain ⟨b, h1, h2⟩ := apok_apz ht
  exact append_R_any h1 ha hl h2
/-! Folding explicit cells -/
theorem fold_I1 (a b : Bool) (tok : Option Nat) (x : Int) : V.row a b [.int .i64 x] 1 tok = R (a, b, tok) eI [x] := rfl
theorem fold_S1 (a b : Bool) (tok : Option Nat) (x : List UInt8) : V.row a b [.str x] 1 tok = R (a, b, tok) eS [x] := rfl
theorem fold_B1 (a b : Bool) (tok : Option Nat) (x : Bool) : V.row a b [.bool x] 1 tok = R (a, b, tok) eBo [x] := rfl

theorem wrap8 {n : Int} (h : 0 ≤ n ∧ n ≤ 255) : IntKind.u8.wrap n = n := IntWalk.u8_in n h
theorem wrap32 {n : Int} (h : -2147483648 ≤ n ∧ n ≤ 2147483647) : IntKind.i32.wrap n = n := IntWalk.i32_in n h
theorem tdiv_pos {a b : Int} (h : 0 ≤ a) : a.tdiv b = a / b := Int.tdiv_eq_ediv_of_nonneg h
theorem tmod_pos {a b : Int} (h : 0 ≤ a) : a.tmod b = a % b := Int.tmod_eq_emod_of_nonneg h
attribute [simp] buildSliceV buildV fillL writeL wrap8 wrap32 tdiv_pos tmod_pos
/-! Rows of given cells -/
theorem buildSlice_one {P : Program} {t : TypeId} {n : Nat} {vs : List V} (he : esz P t = some 1) (hz : ∃ e z, elemOfSlice P t = some e ∧ zeroCs P e = some [z]) (hn : n = vs.length) (hv : vs.all V.one = true) (hl : n ≤ 65536) :
    buildSliceV P t n (vs.zipIdx.map fun x => (x.2, x.1)) = some (.row false true vs n none) := by
  subst hn
  obtain ⟨e, z, h1, h2⟩ := hz
  have hs : szO P e = some 1 := by unfold esz at he; simpa [h1] using he
  unfold buildSliceV
  simp only [h1, hs, h2]
  rw [if_pos (by omega)]
  have key : ∀ (ws : List V) (k : Nat) (pre : List V), ws.all V.one = true → pre.length = k →
      fillL (fun i => some (i * 1, 1)) (pre ++ List.replicate ws.length z) ((ws.zipIdx k).map fun x => (x.2, x.1)) = some (pre ++ ws) := by
    intro ws
    induction ws with
    | nil => intro k pre _ _; simp [fillL]
    | cons w ws ih =>
      intro k pre hw hk
      simp only [List.all_cons, Bool.and_eq_true] at hw
      simp only [List.zipIdx_cons, List.map_cons, fillL]
      have hc : w.cellsO = some [w] := by
        unfold V.cellsO
        cases w <;> simp [V.one] at hw ⊢
      simp only [hc, List.length_cons, List.length_nil, Nat.mul_one]
      rw [if_pos ⟨trivial, by simp [hk]⟩]
      have e1 : writeL (pre ++ List.replicate (ws.length + 1) z) k [w] = (pre ++ [w]) ++ List.replicate ws.length z := by
        simp only [writeL]
        rw [List.set_append_right _ _ (by omega), hk, Nat.sub_self, List.replicate_succ, List.set_cons_zero]
        simp
      have := ih (k + 1) (pre ++ [w]) hw.2 (by simp [hk])
      simp only [Nat.mul_one] at this
      rw [e1, this]
      simp
  have := key vs 0 [] hv rfl
  have e2 : (List.replicate vs.length [z]).flatten = List.replicate vs.length z := by
    induction vs.length with
    | zero => rfl
    | succ n ih => simp [List.replicate_succ, ih]
  rw [e2]
  simp only [List.nil_append] at this
  rw [this]; rfl
/-! Tables -/
def arrz (P : Program) (t : TypeId) : Option (Nat × Nat) := match P.underlying t with
  | some (.array n e) => (szO P e).map fun s => (n, s)
  | _ => none
@[simp] theorem indexAddr_arr {P : Program} {α : Type} {E : α → List V} {sz : Nat} {t : TypeId} {l : List α} {k : IntKind} {i : Int} [Inhabited α] [hE : EncC E sz] (ha : arrz P t = some (l.length, sz)) :
    indexAddrV P t (.rptr (rows E l)) (.int k i) = if 0 ≤ i ∧ i.toNat < l.length then some (.rptr (E (nth l i.toNat) ++ rows E (l.drop (i.toNat + 1)))) else none := by
  unfold arrz at ha
  split at ha <;> (try (cases ha; done))
  rename_i n e hu
  cases hs : szO P e with
  | none => rw [hs] at ha; cases ha
  | some s =>
    rw [hs] at ha
    simp only [Option.map_some, Option.some.injEq, Prod.mk.injEq] at ha
    obtain ⟨rfl, rfl⟩ := ha
    unfold indexAddrV
    simp only [intOf?, hu, hs]
    by_cases hi : 0 ≤ i ∧ i.toNat < l.length
    · rw [if_pos hi, if_pos hi, rows_drop, nth_drop hi.2, rows_cons]
    · rw [if_neg hi, if_neg hi]
def eU (x : Int) : List V := [.int .u8 x]
def eU2 (x : Int × Int) : List V := [.int .u8 x.1, .int .u8 x.2]
instance : EncC eU 1 := ⟨fun _ => rfl, by decide, fun _ => rfl, fun _ => rfl, fun _ => rfl⟩
instance : EncC eU2 2 := ⟨fun _ => rfl, by decide, fun _ => rfl, fun _ => rfl, fun _ => rfl⟩
/-! Blocks -/
@[simp] theorem newB_mk (bs : List Blk) (ts : List (Option Nat)) (b : Blk) : newB ⟨bs, ts⟩ b = ⟨bs ++ [b], ts⟩ := rfl
@[simp] theorem newB_bs (h : Heap) (b : Blk) : (newB h b).bs = h.bs ++ [b] := rfl
@[simp] theorem newB_ts (h : Heap) (b : Blk) : (newB h b).ts = h.ts := rfl
@[simp] theorem emptyH_bs : emptyH.bs = [] := rfl
@[simp] theorem emptyH_ts : emptyH.ts = [] := rfl
attribute [simp] storeP
/-! Unrolling -/
theorem wp_unroll {c : Cfg} (hk : c.kill = false) {b : Code} {s : St} {K : List Fr} {Q : Ax → St → Prop} (h : wp c b s (.loop b :: K) Q) : wp c (.loop b) s K Q := by
  rw [wp_loop_eq]
  have : killS c b s = s := by simp [killS, hk]
  rw [this]; exact h
end Go.Ab
