/- Layer 11 (fonts): the search for a glyph; the map of pairs. -/
import Derived.Test.YtdfpmhgfmmcopaaDoorF2
set_option linter.unusedVariables false
set_option linter.unusedSimpArgs false
set_option linter.unusedSectionVars false
set_option linter.deprecated false
namespace Go.Ab
open Go.Proofs
set_option maxRecDepth 100000
set_option maxHeartbeats 4000000
/-- sorted glyphs: where the search stops -/
theorem gAll_hi {gs : List Glyph} (h : gAll gs = true) : ∀ (j i : Nat), i ≤ j → j < gs.length → (nth gs i).hi ≤ (nth gs j).hi := by
  intro j
  induction j with
  | zero => intro i hi hj; have : i = 0 := by omega
            subst this; omega
  | succ j ih =>
    intro i hi hj
    by_cases he : i = j + 1
    · subst he; omega
    · have h1 := ih i (by omega) (by omega)
      have h2 := allTo_iff.1 h (j + 1) hj
      simp only [Bool.and_eq_true, gOk, gRise, decide_eq_true_eq, Nat.add_sub_cancel] at h2
      have := h2.2 (by omega)
      omega
theorem gAll_lo {gs : List Glyph} (h : gAll gs = true) {i j : Nat} (hij : i < j) (hj : j < gs.length) : (nth gs i).hi < (nth gs j).lo := by
  have h1 := gAll_hi h (j - 1) i (by omega) (by omega)
  have h2 := allTo_iff.1 h j hj
  simp only [Bool.and_eq_true, gRise, decide_eq_true_eq] at h2
  have := h2.2 (by omega)
  omega
theorem oneS_search {f : Font} (h : checkS f = 0) {r : Int} {n : Nat} (hn : n ≤ f.gs.length) (h1 : ∀ j, j < n → (nth f.gs j).hi < r) (h2 : n < f.gs.length → r ≤ (nth f.gs n).hi) :
    oneS f r = if n < f.gs.length ∧ (nth f.gs n).lo ≤ r then (nth f.gs n).width else f.other := by
  obtain ⟨_, _, hg, _⟩ := checkS_ok h
  have hb : ∀ j, j < n → gHit f r j = false := fun j hj => by
    have := h1 j hj
    unfold gHit; rw [decide_eq_false_iff_not]; omega
  split
  · rename_i hc
    exact oneS_at hc.1 (decide_eq_true ⟨hc.2, h2 hc.1⟩) hb
  · rename_i hc
    refine oneS_no fun i hi => ?_
    by_cases hin : i < n
    · exact hb i hin
    · unfold gHit
      rw [decide_eq_false_iff_not]
      by_cases hie : i = n
      · subst hie; intro hx; exact hc ⟨hi, hx.1⟩
      · have h3 := gAll_lo hg (i := n) (j := i) (by omega) hi
        have h4 := h2 (by omega)
        omega
theorem Cholds (g : Glyph) (r : Int) (p : Nat) (h : Heap) (hb : h.bs[p]? = some (.cells [.int .i64 r])) : Ci cfg (.func (.func 40) [] [.ptr p 0]) [.agg (eG g)] h = some (.ret (.bool (decide (r ≤ g.hi))), ⟨h.bs ++ [.cells (eG g)], h.ts⟩) := by
  have hp : p < h.bs.length := (List.getElem?_eq_some_iff.1 hb).1
  have hb2 : ∀ x : Blk, (h.bs ++ [x])[p]? = some (.cells [.int .i64 r]) := fun x => by rw [bs_left hp, hb]
  have hl : ∀ x : Blk, (h.bs ++ [x])[h.bs.length]? = some x := fun b => by simp
  clear hp
  refine Ci_fun_wp (fn := Tryd.f40) rfl Tryd.func40 rfl (by simp [Tryd.f40]) ?_
  simp (disch := first | assumption | omega | (simp; done) | (simp; omega)) [-getElem?_pos, List.getElem?_cons_zero, List.getElem?_cons_succ, Tryd.f40, eG, hb2, hl]
  simp [newB]
theorem Wfirst {k : CC} {K : List Fr} {Q : Ax → St → Prop} (f : Font) (hc : checkS f = 0) (r : Int) (p : Nat) (q : Fl) (hh : Heap) (hb : hh.bs[p]? = some (.cells [.int .i64 r]))
    (H : ∀ (X : List Blk) (n : Nat), n ≤ f.gs.length → (∀ j, j < n → (nth f.gs j).hi < r) → (n < f.gs.length → r ≤ (nth f.gs n).hi) → wk cfg k K Q (some (.ret (.int .i64 n), ⟨hh.bs ++ X, hh.ts⟩))) :
    wk cfg k K Q (Ci cfg (.func (.func 39) [] []) [R q eG f.gs, .func (.func 40) [] [.ptr p 0]] hh) := by
  obtain ⟨hlen, _, hg, _⟩ := checkS_ok hc
  have hp : p < hh.bs.length := (List.getElem?_eq_some_iff.1 hb).1
  repeat' (first | (refine wpc_split _ (fun hc => ?_) (fun hc => ?_) <;> (try simp at hc)) | (refine ww_split _ (fun hc => ?_) (fun hc => ?_) <;> (try simp at hc)) | (refine wp_drawF (by kernel_rfl) ?_) | (refine wk_yldW _ ?_) | (refine owe ?_ (fun ho => ?_)) | (simp (disch := first | assumption | omega | (simp; done) | (simp; omega)) [Tryd.f39, -getElem?_pos, List.getElem?_cons_zero, List.getElem?_cons_succ]))
  refine wp_loopE cfg rfl (fun f0 h0 m fr h => ∃ a : Nat, ∃ b : Nat, ∃ AX : List Blk, fr 0 = f0 0 ∧ fr 1 = f0 1 ∧ fr 5 = .int .i64 a ∧ fr 6 = .int .i64 b ∧ h.bs = h0.bs ++ AX ∧ (h.ts = hh.ts) ∧ (a ≤ b ∧ b ≤ f.gs.length) ∧ (m = b - a) ∧ (∀ j, j < a → (nth f.gs j).hi < r) ∧ (b < f.gs.length → r ≤ (nth f.gs b).hi)) (f.gs.length) _ _ ⟨0, f.gs.length, [], rfl, rfl, by first | rfl | (simp; done) | (simp [R]; done) | simp [R], by first | rfl | (simp; done) | (simp [R]; done) | simp [R], by simp, by first | rfl | (simp; done) | omega, by first | rfl | (simp; done) | omega, by first | rfl | (simp; done) | omega, by first | rfl | (simp; done) | omega, by first | rfl | (simp; done) | omega⟩ ?_
  rintro Am Af Ah ⟨a, b, AX, A0, A1, A5, A6, Abs, hts, hab, hm, h1, h2⟩ Aih
  try simp at A0 A1 Abs
  have hb2 : Ah.bs[p]? = some (.cells [.int .i64 r]) := by rw [Abs, bs_left hp, hb]
  have hcl := fun g => Cholds g r p Ah hb2
  simp only [eG] at hcl
  by_cases hlt : a < b
  · obtain ⟨c, hc2⟩ : ∃ c : Nat, c = (a + b) / 2 := ⟨_, rfl⟩
    have hq : ((a : Int) + b) / 2 = (c : Int) := by omega
    have hmid : c < f.gs.length := by omega
    have hac : a ≤ c ∧ c < b := by omega
    clear hc2
    by_cases hle : r ≤ (nth f.gs c).hi
    · have hd : decide (r ≤ (nth f.gs c).hi) = true := decide_eq_true hle
      repeat' (first | (refine wpc_split _ (fun hc => ?_) (fun hc => ?_) <;> (try simp at hc)) | (refine ww_split _ (fun hc => ?_) (fun hc => ?_) <;> (try simp at hc)) | (refine wp_drawF (by kernel_rfl) ?_) | (refine wk_yldW _ ?_) | (refine owe ?_ (fun ho => ?_)) | (simp (disch := first | assumption | omega | (simp; done) | (simp; omega)) [A0, A1, A5, A6, Abs, eG, hq, hcl, hd, -getElem?_pos, List.getElem?_cons_zero, List.getElem?_cons_succ]))
      exact Aih (c - a) _ _ (by omega) ⟨a, c, AX ++ [.cells (eG (nth f.gs c))], by simp [A0, A1, A5, A6, Abs, eG], by simp [A0, A1, A5, A6, Abs, eG], by simp [A0, A1, A5, A6, Abs, eG], by simp [A0, A1, A5, A6, Abs, eG], by simp [A0, A1, A5, A6, Abs, eG], by simp [hts], by omega, by omega, h1, fun _ => hle⟩
    · have hd : decide (r ≤ (nth f.gs c).hi) = false := decide_eq_false hle
      have hle2 := fun (j : Nat) (hj : j ≤ c) => gAll_hi hg c j hj hmid
      repeat' (first | (refine wpc_split _ (fun hc => ?_) (fun hc => ?_) <;> (try simp at hc)) | (refine ww_split _ (fun hc => ?_) (fun hc => ?_) <;> (try simp at hc)) | (refine wp_drawF (by kernel_rfl) ?_) | (refine wk_yldW _ ?_) | (refine owe ?_ (fun ho => ?_)) | (simp (disch := first | assumption | omega | (simp; done) | (simp; omega)) [A0, A1, A5, A6, Abs, eG, hq, hcl, hd, -getElem?_pos, List.getElem?_cons_zero, List.getElem?_cons_succ]))
      exact Aih (b - (c + 1)) _ _ (by omega) ⟨c + 1, b, AX ++ [.cells (eG (nth f.gs c))], by simp [A0, A1, A5, A6, Abs, eG], by simp [A0, A1, A5, A6, Abs, eG], by simp [A0, A1, A5, A6, Abs, eG], by simp [A0, A1, A5, A6, Abs, eG], by simp [A0, A1, A5, A6, Abs, eG], by simp [hts], by omega, by omega, fun j hj => Int.lt_of_le_of_lt (hle2 j (by omega)) (by omega), h2⟩
  · have hab2 : a = b := by omega
    subst hab2
    repeat' (first | (refine wpc_split _ (fun hc => ?_) (fun hc => ?_) <;> (try simp at hc)) | (refine ww_split _ (fun hc => ?_) (fun hc => ?_) <;> (try simp at hc)) | (refine wp_drawF (by kernel_rfl) ?_) | (refine wk_yldW _ ?_) | (refine owe ?_ (fun ho => ?_)) | (simp (disch := first | assumption | omega | (simp; done) | (simp; omega)) [A0, A1, A5, A6, Abs, -getElem?_pos, List.getElem?_cons_zero, List.getElem?_cons_succ]))
    have := H AX a hab.2 h1 h2
    rw [← hts, ← Abs] at this
    exact this
/-- the map of pairs -/
def kEnt (ks : List Kern) (i : Nat) : V × V × Nat := (.agg [.int .i64 (nth ks i).a, .int .i64 (nth ks i).b], .int .i64 (nth ks i).by', i)
def kMap (ks : List Kern) (n : Nat) : List (V × V × Nat) := (List.range n).map (kEnt ks)
theorem kMap_succ (ks : List Kern) (n : Nat) : kMap ks (n + 1) = kMap ks n ++ [kEnt ks n] := by
  unfold kMap; rw [List.range_succ, List.map_append]; rfl
theorem kMap_len (ks : List Kern) (n : Nat) : (kMap ks n).length = n := by unfold kMap; simp
theorem eqKeyP (a b c d : Int) : eqKey Tryd.prog 73 (.agg [.int .i64 a, .int .i64 b]) (.agg [.int .i64 c, .int .i64 d]) = some (decide (a = c ∧ b = d)) := by
  have e : ∀ x y : Int, (x == y) = decide (x = y) := fun x y => by by_cases h : x = y <;> simp [h]
  simp [eqKey, eqElems, eqCell]
  rw [e, e]
  by_cases h1 : a = c
  · by_cases h2 : b = d
    · rw [decide_eq_true h1, decide_eq_true h2]; rfl
    · rw [decide_eq_true h1, decide_eq_false h2]; rfl
  · rw [decide_eq_false h1]; rfl
theorem findK_none {ks : List Kern} {n : Nat} {a b : Int} : (∀ i, i < n → ¬ ((nth ks i).a = a ∧ (nth ks i).b = b)) → findK Tryd.prog 73 (.agg [.int .i64 a, .int .i64 b]) (kMap ks n) = some none := by
  intro h
  unfold kMap
  have key : ∀ l : List Nat, (∀ i ∈ l, ¬ ((nth ks i).a = a ∧ (nth ks i).b = b)) → findK Tryd.prog 73 (.agg [.int .i64 a, .int .i64 b]) (l.map (kEnt ks)) = some none := by
    intro l
    induction l with
    | nil => intro _; rfl
    | cons i l ih =>
      intro hl
      have h1 := hl i (by simp)
      have h2 : decide (a = (nth ks i).a ∧ b = (nth ks i).b) = false := decide_eq_false fun hx => h1 ⟨hx.1.symm, hx.2.symm⟩
      simp only [List.map_cons, kEnt, findK, eqKeyP, h2]
      have := ih (fun j hj => hl j (List.mem_cons_of_mem _ hj))
      simp only [this]
  exact key _ (by simpa using h)
theorem findK_hit {ks : List Kern} {n : Nat} {a b : Int} (i : Nat) (hi : i < n) (h : (nth ks i).a = a ∧ (nth ks i).b = b) (hb : ∀ j, j < i → ¬ ((nth ks j).a = a ∧ (nth ks j).b = b)) :
    findK Tryd.prog 73 (.agg [.int .i64 a, .int .i64 b]) (kMap ks n) = some (some (i, .int .i64 (nth ks i).by', i)) := by
  have key : ∀ (m s : Nat), s ≤ i → i < s + m → findK Tryd.prog 73 (.agg [.int .i64 a, .int .i64 b]) ((List.range' s m).map (kEnt ks)) = some (some (i - s, .int .i64 (nth ks i).by', i)) := by
    intro m
    induction m with
    | zero => intro s h1 h2; omega
    | succ m ih =>
      intro s h1 h2
      rw [List.range'_succ, List.map_cons]
      by_cases hs : s = i
      · subst hs
        have h3 : decide (a = (nth ks s).a ∧ b = (nth ks s).b) = true := decide_eq_true ⟨h.1.symm, h.2.symm⟩
        simp only [kEnt, findK, eqKeyP, h3]
        simp
      · have h3 : decide (a = (nth ks s).a ∧ b = (nth ks s).b) = false := decide_eq_false fun hx => hb s (by omega) ⟨hx.1.symm, hx.2.symm⟩
        simp only [kEnt, findK, eqKeyP, h3]
        have := ih (s + 1) (by omega) (by omega)
        simp only [this]
        congr 3; omega
  unfold kMap
  rw [List.range_eq_range']
  have := key n 0 (by omega) (by omega)
  simpa using this
/-- pairs rise: they differ -/
theorem kAll_lt {ks : List Kern} (h : kAll ks = true) : ∀ (j i : Nat), i < j → j < ks.length → (nth ks i).a < (nth ks j).a ∨ (nth ks i).a = (nth ks j).a ∧ (nth ks i).b < (nth ks j).b := by
  intro j
  induction j with
  | zero => intro i hi; omega
  | succ j ih =>
    intro i hi hj
    have h2 := allTo_iff.1 h (j + 1) hj
    simp only [Bool.and_eq_true, kRise, decide_eq_true_eq, Nat.add_sub_cancel] at h2
    have h3 := h2.2 (by omega)
    by_cases he : i = j
    · subst he; exact h3
    · have := ih i (by omega) (by omega)
      omega
theorem kMap_near {f : Font} (h : checkS f = 0) (a b : Int) :
    ∃ o, findK Tryd.prog 73 (.agg [.int .i64 a, .int .i64 b]) (kMap f.ks f.ks.length) = some o ∧ (o = none ∧ nearS f a b = 0 ∨ ∃ i, o = some (i, .int .i64 (nearS f a b), i)) := by
  by_cases hx : ∃ i, i < f.ks.length ∧ (nth f.ks i).a = a ∧ (nth f.ks i).b = b
  · obtain ⟨i, hi, h1⟩ := hx
    obtain ⟨_, _, _, hk⟩ := checkS_ok h
    have hb : ∀ j, j < i → ¬ ((nth f.ks j).a = a ∧ (nth f.ks j).b = b) := by
      intro j hj h2
      have := kAll_lt hk i j hj hi
      omega
    refine ⟨_, findK_hit i hi h1 hb, .inr ⟨i, ?_⟩⟩
    rw [nearS_at hi (decide_eq_true h1) (fun j hj => decide_eq_false (hb j hj))]
  · have hb : ∀ i, i < f.ks.length → ¬ ((nth f.ks i).a = a ∧ (nth f.ks i).b = b) := fun i hi h1 => hx ⟨i, hi, h1⟩
    exact ⟨none, findK_none hb, .inl ⟨rfl, nearS_no (fun i hi => decide_eq_false (hb i hi))⟩⟩
end Go.Ab
