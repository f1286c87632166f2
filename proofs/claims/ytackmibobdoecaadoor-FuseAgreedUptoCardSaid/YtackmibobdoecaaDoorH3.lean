/- Layer 22 (fuse): the specification's put and Fuse. -/
import Derived.Test.YtackmibobdoecaaDoorH2
import Derived.Test.YtackmibobdoecaaDoorP22b
import Derived.Test.YtackmibobdoecaaDoorA4
set_option linter.unusedVariables false
set_option linter.unusedSimpArgs false
set_option linter.unusedSectionVars false
set_option linter.deprecated false
namespace Go.Ab
open Go.Proofs
set_option maxRecDepth 100000
set_option maxHeartbeats 4000000
theorem wordS_ne {t : List UInt8} (h : wordS t = true) : t ≠ [] := by
  rintro rfl; simp [wordS] at h
theorem wordS_len {t : List UInt8} (h : wordS t = true) : t.length ≤ 64 := by
  unfold wordS at h
  rw [Bool.and_eq_true] at h
  have := of_decide_eq_true h.1
  omega
/-- slots and a source that can be put together -/
structure Fit (x : List (List Cell)) (r : List Cell) : Prop where
  hx : x.length ≤ 64
  hr : r.length ≤ 64
  wx : ∀ y ∈ x, wordS (textS y) = true
  wr : ∀ c ∈ r, wordS c.text = true
  sx : smL x
  sr : smS r
theorem Fit.err {x : List (List Cell)} {r : List Cell} (h : Fit x r) : errS (textsL x) (saidL r) = 0 := by
  have h1 : (textsL x).length = x.length := by simp [textsL]
  have h2 : (saidL r).length = r.length := by simp [saidL]
  have := h.hx; have := h.hr
  unfold errS
  rw [if_neg (by omega), if_pos]
  refine ⟨?_, ?_⟩
  · rw [List.all_eq_true]; intro t ht
    obtain ⟨y, hy, rfl⟩ := List.mem_map.1 ht
    exact h.wx y hy
  · rw [List.all_eq_true]; intro t ht
    obtain ⟨y, hy, rfl⟩ := List.mem_map.1 ht
    exact h.wr y hy
theorem Fit.al {x : List (List Cell)} {r : List Cell} (h : Fit x r) : alS (textsL x) (saidL r) = (alignF (textsL x) (saidL r), T21 (textsL x) (saidL r) 0 0, 0) := by
  unfold alS; rw [if_pos h.err]
theorem Fit.small {x : List (List Cell)} {r : List Cell} (h : Fit x r) : ((textsL x).length < 1099511627776 ∧ (saidL r).length < 1099511627776) ∧ (∀ t ∈ textsL x, t.length < 1099511627776) ∧ (∀ t ∈ saidL r, t.length < 1099511627776) := by
  have h1 : (textsL x).length = x.length := by simp [textsL]
  have h2 : (saidL r).length = r.length := by simp [saidL]
  have := h.hx; have := h.hr
  refine ⟨by omega, ?_, ?_⟩
  · intro t ht
    obtain ⟨y, hy, rfl⟩ := List.mem_map.1 ht
    have := wordS_len (h.wx y hy); omega
  · intro t ht
    obtain ⟨y, hy, rfl⟩ := List.mem_map.1 ht
    have := wordS_len (h.wr y hy); omega
theorem alF_len (a b : List (List UInt8)) : (alignF a b).length ≤ a.length + b.length := by
  have key : ∀ n (a b : List (List UInt8)), a.length + b.length ≤ n → (alignF a b).length ≤ a.length + b.length := by
    intro n
    induction n with
    | zero =>
      intro a b h
      have h1 : a = [] := List.eq_nil_of_length_eq_zero (by omega)
      have h2 : b = [] := List.eq_nil_of_length_eq_zero (by omega)
      subst h1; subst h2; rw [alF_nn]; simp
    | succ n ih =>
      intro a b h
      cases a with
      | nil => cases b with
        | nil => rw [alF_nn]; simp
        | cons y b => rw [alF_nc]; have := ih [] b (by simp at h ⊢; omega); simp at this ⊢; omega
      | cons x a => cases b with
        | nil => rw [alF_cn]; have := ih a [] (by simp at h ⊢; omega); simp at this ⊢; omega
        | cons y b =>
          simp at h
          have i1 := ih a b (by omega)
          have i2 := ih a (y :: b) (by simp; omega)
          have i3 := ih (x :: a) b (by simp; omega)
          rw [alF_cc]
          simp at i1 i2 i3 ⊢
          split
          · simp; omega
          · split
            · simp; omega
            · split <;> simp <;> omega
  exact key _ a b (Nat.le_refl _)
@[simp] theorem zcells_closedL (n : Nat) : V.closed.closedL ((List.replicate n [V.str [], V.row true true [] 0 none]).flatten) = true := (zcells_flat n).2
@[simp] theorem S58e (x : List Cell) (hl : x.length ≤ 4294967290) (q1 : Fl) (hh : Heap) :
    Ci cfg (.func (.func 58) [] []) [R q1 eC x, .agg [.str [], .row true true [] 0 none]] hh = some (.ret (R fl0 eC (x ++ [c0])), hh) :=
  S58 x [] [] hl (q1 := q1) (q2 := (true, true, none)) (hh := hh)
@[simp] theorem S58z (n : Nat) (t : List UInt8) (al : List (List UInt8)) (hl : n ≤ 4294967290) (a b : Bool) (q2 : Fl) (hh : Heap) :
    Ci cfg (.func (.func 58) [] []) [.row a b ((List.replicate n [V.str [], V.row true true [] 0 none]).flatten) n none, .agg [.str t, R q2 eS al]] hh = some (.ret (R fl0 eC (List.replicate n c0 ++ [⟨t, al⟩])), hh) :=
  Ci_K cfg rfl rfl (by simp [V.closed.closedL, V.closed, (zcells_flat n).2]) (by simp [V.norm.normL, V.norm, (zcells_flat n).1, R]) (C58 (List.replicate n c0) t al (by simpa using hl))
theorem C32 (x : List (List Cell)) (many : Nat) (r : List Cell) (hf : Fit x r) (hm0 : many ≤ 1024) (hyl : ∀ y ∈ x, y.length ≤ 1024) : Kc cfg 32 [R fl0 (eR eC) x, .int .i64 many, R fl0 eC r] (.ret (R fl0 (eR eC) (putL many (alignF (textsL x) (saidL r)) x r))) := by
  obtain ⟨hsl, hs1, hs2⟩ := hf.small
  have hx64 := hf.hx
  have hr64 := hf.hr
  have hsx := hf.sx
  have hsr := hf.sr
  have hal := hf.al
  have hpa := alF_path (textsL x) (saidL r)
  have hstl := alF_len (textsL x) (saidL r)
  have hl1 : (textsL x).length = x.length := by simp [textsL]
  have hl2 : (saidL r).length = r.length := by simp [saidL]
  generalize hst : alignF (textsL x) (saidL r) = st at *
  generalize hP : putL many st x r = P
  refine outS_of_wp cfg (fn := Tryd.f32) Tryd.func32 rfl (by simp [Tryd.f32]) ?_
  simp (disch := first | assumption | omega | (simp; done) | (simp; omega)) [-getElem?_pos, List.getElem?_cons_zero, List.getElem?_cons_succ, Tryd.f32, hal]
  repeat' (first | (refine wpc_split _ (fun hc => ?_) (fun hc => ?_) <;> (try simp at hc)) | (refine ww_split _ (fun hc => ?_) (fun hc => ?_) <;> (try simp at hc)) | (refine wp_drawF (by kernel_rfl) ?_) | (refine wk_yldW _ ?_) | (refine layOwe _ (by kernel_rfl) ?_) | (refine owe ?_ (fun ho => ?_)) | (simp (disch := first | assumption | omega | (simp; done) | (simp; omega)) [hal, -getElem?_pos, List.getElem?_cons_zero, List.getElem?_cons_succ]))
  refine wp_loopE cfg rfl (fun f0 h0 m fr h => ∃ i : Nat, ∃ s : Nat, ∃ k : Nat, ∃ n : Int, ∃ fl : Fl, ∃ out : List (List Cell), fr 0 = f0 0 ∧ fr 1 = f0 1 ∧ fr 2 = f0 2 ∧ fr 7 = f0 7 ∧ fr 10 = R fl (eR eC) out ∧ fr 11 = .int .i64 s ∧ fr 12 = .int .i64 k ∧ fr 13 = .int .i64 i ∧ (App h.ts 1 fl) ∧ (i + m = st.length) ∧ (out.length = i) ∧ (pathC (st.drop i) (textsL (x.drop s)) (saidL (r.drop k)) = some n) ∧ (out ++ putL many (st.drop i) (x.drop s) (r.drop k) = P)) (st.length) _ _ ⟨0, 0, 0, _, (false, true, none), [], rfl, rfl, rfl, rfl, by first | rfl | (simp; done) | (simp [R]; done) | simp [R], by first | rfl | (simp; done) | (simp [R]; done) | simp [R], by first | rfl | (simp; done) | (simp [R]; done) | simp [R], by first | rfl | (simp; done) | (simp [R]; done) | simp [R], App.full _ _ _, by first | rfl | (simp; done) | omega, by first | rfl | (simp; done) | omega, hpa, hP⟩ ?_
  rintro Am Af Ah ⟨i, s, k, n, fl, out, A0, A1, A2, A7, A10, A11, A12, A13, hap, hm, hol, hpp, hop⟩ Aih
  try simp at A0 A1 A2 A7
  by_cases hi : i < st.length
  · rcases put_at (many := many) hi hpp with ⟨hs, a1, n2, a2, a3⟩ | ⟨hs, a1, n2, a2, a3⟩ | ⟨hs, a1, b1, n2, a2, a3⟩
    · have hyl1 := hyl _ (nth_mem a1)
      rw [a3] at hop
      repeat' (first | (refine wpc_split _ (fun hc => ?_) (fun hc => ?_) <;> (try simp at hc)) | (refine ww_split _ (fun hc => ?_) (fun hc => ?_) <;> (try simp at hc)) | (refine wp_drawF (by kernel_rfl) ?_) | (refine wk_yldW _ ?_) | (refine layOwe _ (by kernel_rfl) ?_) | (refine owe ?_ (fun ho => ?_)) | (simp (disch := first | assumption | omega | (simp; done) | (simp; omega)) [A0, A1, A2, A7, A10, A11, A12, A13, eR, eI, hs, -getElem?_pos, List.getElem?_cons_zero, List.getElem?_cons_succ]))
      exact Aih (Am - 1) _ _ (by omega) ⟨i + 1, s + 1, k, n2, _, out ++ [nth x s ++ [c0]], by simp [A0, A1, A2, A7, A10, A11, A12, A13], by simp [A0, A1, A2, A7, A10, A11, A12, A13], by simp [A0, A1, A2, A7, A10, A11, A12, A13], by simp [A0, A1, A2, A7, A10, A11, A12, A13], by simp [A0, A1, A2, A7, A10, A11, A12, A13], by simp [A0, A1, A2, A7, A10, A11, A12, A13], by simp [A0, A1, A2, A7, A10, A11, A12, A13], by simp [A0, A1, A2, A7, A10, A11, A12, A13], App.new _ _ _, by omega, (by simp [hol]), a2, (by simpa using hop)⟩
    · rw [a3] at hop
      repeat' (first | (refine wpc_split _ (fun hc => ?_) (fun hc => ?_) <;> (try simp at hc)) | (refine ww_split _ (fun hc => ?_) (fun hc => ?_) <;> (try simp at hc)) | (refine wp_drawF (by kernel_rfl) ?_) | (refine wk_yldW _ ?_) | (refine layOwe _ (by kernel_rfl) ?_) | (refine owe ?_ (fun ho => ?_)) | (simp (disch := first | assumption | omega | (simp; done) | (simp; omega)) [A0, A1, A2, A7, A10, A11, A12, A13, eR, eI, hs, -getElem?_pos, List.getElem?_cons_zero, List.getElem?_cons_succ]))
      exact Aih (Am - 1) _ _ (by omega) ⟨i + 1, s, k + 1, n2, _, out ++ [List.replicate many c0 ++ [nth r k]], by simp [A0, A1, A2, A7, A10, A11, A12, A13], by simp [A0, A1, A2, A7, A10, A11, A12, A13], by simp [A0, A1, A2, A7, A10, A11, A12, A13], by simp [A0, A1, A2, A7, A10, A11, A12, A13], by simp [A0, A1, A2, A7, A10, A11, A12, A13], by simp [A0, A1, A2, A7, A10, A11, A12, A13], by simp [A0, A1, A2, A7, A10, A11, A12, A13], by simp [A0, A1, A2, A7, A10, A11, A12, A13], App.new _ _ _, by omega, (by simp [hol]), a2, (by simpa using hop)⟩
    · have hyl1 := hyl _ (nth_mem a1)
      rw [a3] at hop
      have h3 : ¬ nth st i = 3 := by omega
      have h4 : ¬ nth st i = 4 := by omega
      repeat' (first | (refine wpc_split _ (fun hc => ?_) (fun hc => ?_) <;> (try simp at hc)) | (refine ww_split _ (fun hc => ?_) (fun hc => ?_) <;> (try simp at hc)) | (refine wp_drawF (by kernel_rfl) ?_) | (refine wk_yldW _ ?_) | (refine layOwe _ (by kernel_rfl) ?_) | (refine owe ?_ (fun ho => ?_)) | (simp (disch := first | assumption | omega | (simp; done) | (simp; omega)) [A0, A1, A2, A7, A10, A11, A12, A13, eR, eI, h3, h4, -getElem?_pos, List.getElem?_cons_zero, List.getElem?_cons_succ]))
      exact Aih (Am - 1) _ _ (by omega) ⟨i + 1, s + 1, k + 1, n2, _, out ++ [nth x s ++ [nth r k]], by simp [A0, A1, A2, A7, A10, A11, A12, A13], by simp [A0, A1, A2, A7, A10, A11, A12, A13], by simp [A0, A1, A2, A7, A10, A11, A12, A13], by simp [A0, A1, A2, A7, A10, A11, A12, A13], by simp [A0, A1, A2, A7, A10, A11, A12, A13], by simp [A0, A1, A2, A7, A10, A11, A12, A13], by simp [A0, A1, A2, A7, A10, A11, A12, A13], by simp [A0, A1, A2, A7, A10, A11, A12, A13], App.new _ _ _, by omega, (by simp [hol]), a2, (by simpa using hop)⟩
  · have he : st.drop i = [] := List.drop_eq_nil_of_le (by omega)
    rw [he, put_end, List.append_nil] at hop
    subst hop
    repeat' (first | (refine wpc_split _ (fun hc => ?_) (fun hc => ?_) <;> (try simp at hc)) | (refine ww_split _ (fun hc => ?_) (fun hc => ?_) <;> (try simp at hc)) | (refine wp_drawF (by kernel_rfl) ?_) | (refine wk_yldW _ ?_) | (refine layOwe _ (by kernel_rfl) ?_) | (refine owe ?_ (fun ho => ?_)) | (simp (disch := first | assumption | omega | (simp; done) | (simp; omega)) [A0, A1, A2, A7, A10, A11, A12, A13, -getElem?_pos, List.getElem?_cons_zero, List.getElem?_cons_succ]))
@[simp] theorem S32 (x : List (List Cell)) (many : Nat) (r : List Cell) (hf : Fit x r) (hm0 : many ≤ 1024) (hyl : ∀ y ∈ x, y.length ≤ 1024) (q1 q2 : Fl) (hh : Heap) : Ci cfg (.func (.func 32) [] []) [R  q1 (eR eC) x, .int .i64 many, R  q2 eC r] hh = some (.ret (R fl0 (eR eC) (putL many (alignF (textsL x) (saidL r)) x r)), hh) :=
  Ci_K cfg rfl rfl (by simp) (by simp) (C32 x many r hf hm0 hyl)
/-! ### Fuse -/
structure OkX (i : Nat) (x : List (List Cell)) : Prop where
  len : ∀ y ∈ x, y.length = i
  word : ∀ y ∈ x, wordS (textS y) = true
  cell : ∀ y ∈ x, ∀ c ∈ y, c = c0 ∨ (wordS c.text = true ∧ smC c)
theorem OkX.nil : OkX 0 [] := ⟨fun _ h => (by cases h), fun _ h => (by cases h), fun _ h => (by cases h)⟩
theorem OkX.step {i : Nat} {x : List (List Cell)} {r : List Cell} (h : OkX i x) (hr : ∀ c ∈ r, wordS c.text = true ∧ smC c) : OkX (i + 1) (putL i (alignF (textsL x) (saidL r)) x r) := by
  have hp := put_al i x r
  have hc := hp.cells (Q := fun c => c = c0 ∨ (wordS c.text = true ∧ smC c)) (.inl rfl) h.cell (fun c hc => .inr (hr c hc))
  have hw := hp.words (fun y hy => wordS_ne (h.word y hy)) (fun c hc => wordS_ne (hr c hc).1)
  refine ⟨hp.len h.len, fun y hy => ?_, hc⟩
  rcases textS_mem (x := y) with e | ⟨c, hcm, e⟩
  · exact absurd e (hw y hy)
  · rcases hc y hy c hcm with e2 | ⟨e2, _⟩
    · subst e2; exact absurd e.symm (hw y hy)
    · rw [← e]; exact e2
theorem OkX.sm {i : Nat} {x : List (List Cell)} (h : OkX i x) (hi : i ≤ 1024) (hx : x.length ≤ 4096) : smL x := by
  refine ⟨by omega, fun y hy => ⟨by have := h.len y hy; omega, fun c hc => ?_⟩⟩
  rcases h.cell y hy c hc with e | ⟨_, e⟩
  · rw [e]; exact smC0
  · exact e
theorem OkX.fit {i : Nat} {x : List (List Cell)} (h : OkX i x) (hi : i ≤ 1024) (hx : x.length ≤ 64) {r : List Cell} (hrl : r.length ≤ 64) (hr : ∀ c ∈ r, wordS c.text = true ∧ smC c) : Fit x r :=
  ⟨hx, hrl, h.word, fun c hc => (hr c hc).1, h.sm hi (by omega), ⟨by omega, fun c hc => (hr c hc).2⟩⟩
theorem putL_len (i : Nat) (x : List (List Cell)) (r : List Cell) : (putL i (alignF (textsL x) (saidL r)) x r).length ≤ x.length + r.length := (put_al i x r).many_le
def fuS (l : List (List Cell)) : List (List Cell) × Int := if 16 < l.length ∨ l.any (fun r => decide (64 < r.length)) = true then ([], 2) else if l.all (fun r => r.all rightC) = true then goL 0 [] l else ([], 220)
theorem fuS_many {l : List (List Cell)} (h : 16 < l.length) : fuS l = ([], 2) := by unfold fuS; rw [if_pos (.inl h)]
theorem fuS_long {l : List (List Cell)} {i : Nat} (hi : i < l.length) (h : 64 < (nth l i).length) : fuS l = ([], 2) := by
  unfold fuS; refine if_pos (.inr ?_)
  rw [List.any_eq_true]; exact ⟨_, nth_mem hi, by simpa using h⟩
theorem fuS_neg {l : List (List Cell)} (h : ¬ 16 < l.length) (hs : ∀ j, j < l.length → ¬ 64 < (nth l j).length) : ¬ (16 < l.length ∨ l.any (fun r => decide (64 < r.length)) = true) := by
  rintro (e | e)
  · exact h e
  · rw [List.any_eq_true] at e
    obtain ⟨r, hr, e⟩ := e
    obtain ⟨j, hj, rfl⟩ := List.getElem_of_mem hr
    have := hs j hj
    rw [nth_eq hj] at this
    simp at e; omega
theorem fuS_odd {l : List (List Cell)} (h : ¬ 16 < l.length) (hs : ∀ j, j < l.length → ¬ 64 < (nth l j).length) {i k : Nat} (hi : i < l.length) (hk : k < (nth l i).length) (ho : rightC (nth (nth l i) k) = false) : fuS l = ([], 220) := by
  unfold fuS; rw [if_neg (fuS_neg h hs), if_neg]
  intro e
  rw [List.all_eq_true] at e
  have := e _ (nth_mem hi)
  rw [List.all_eq_true] at this
  have := this _ (nth_mem hk)
  rw [ho] at this; cases this
theorem fuS_right {l : List (List Cell)} (h : ¬ 16 < l.length) (hs : ∀ j, j < l.length → ¬ 64 < (nth l j).length) (hr : ∀ j, j < l.length → ∀ k, k < (nth l j).length → rightC (nth (nth l j) k) = true) : fuS l = goL 0 [] l := by
  unfold fuS; rw [if_neg (fuS_neg h hs), if_pos]
  rw [List.all_eq_true]
  intro r hrm
  obtain ⟨j, hj, rfl⟩ := List.getElem_of_mem hrm
  rw [List.all_eq_true]
  intro c hc
  obtain ⟨k, hk, rfl⟩ := List.getElem_of_mem hc
  have := hr j hj k (by rw [nth_eq hj]; exact hk)
  rw [nth_eq hj, nth_eq hk] at this; exact this
theorem rightC_word {c : Cell} (h : rightC c = true) : wordS c.text = true := by
  unfold rightC at h; simp only [Bool.and_eq_true] at h; exact h.1.1
theorem row_ok {l : List (List Cell)} (hs : smL l) {i : Nat} (hi : i < l.length) (hr : ∀ j, j < l.length → ∀ k, k < (nth l j).length → rightC (nth (nth l j) k) = true) : ∀ c ∈ nth l i, wordS c.text = true ∧ smC c := by
  intro c hc
  refine ⟨?_, (smL_nth hs hi).2 c hc⟩
  obtain ⟨k, hk, rfl⟩ := List.getElem_of_mem hc
  have := hr i hi k hk
  rw [nth_eq hk] at this
  exact rightC_word this
theorem C12 (l : List (List Cell)) (hs : smL l) : Kc cfg 12 [R fl0 (eR eC) l] (.ret (.tuple [R fl0 (eR eC) (fuS l).1, .int .i64 (fuS l).2])) := by
  have hs1 := hs.1
  by_cases h16 : 16 < l.length
  · rw [fuS_many h16]
    refine outS_of_wp cfg (fn := Tryd.f12) Tryd.func12 rfl (by simp [Tryd.f12]) ?_
    simp (disch := first | assumption | omega | (simp; done) | (simp; omega)) [-getElem?_pos, List.getElem?_cons_zero, List.getElem?_cons_succ, Tryd.f12]
    repeat' (first | (refine wpc_split _ (fun hc => ?_) (fun hc => ?_) <;> (try simp at hc)) | (refine ww_split _ (fun hc => ?_) (fun hc => ?_) <;> (try simp at hc)) | (refine wp_drawF (by kernel_rfl) ?_) | (refine wk_yldW _ ?_) | (refine layOwe _ (by kernel_rfl) ?_) | (refine owe ?_ (fun ho => ?_)) | (simp (disch := first | assumption | omega | (simp; done) | (simp; omega)) [-getElem?_pos, List.getElem?_cons_zero, List.getElem?_cons_succ]))
    all_goals first | rfl | (exfalso; omega)
  generalize hF : fuS l = F
  refine outS_of_wp cfg (fn := Tryd.f12) Tryd.func12 rfl (by simp [Tryd.f12]) ?_
  simp (disch := first | assumption | omega | (simp; done) | (simp; omega)) [-getElem?_pos, List.getElem?_cons_zero, List.getElem?_cons_succ, Tryd.f12]
  repeat' (first | (refine wpc_split _ (fun hc => ?_) (fun hc => ?_) <;> (try simp at hc)) | (refine ww_split _ (fun hc => ?_) (fun hc => ?_) <;> (try simp at hc)) | (refine wp_drawF (by kernel_rfl) ?_) | (refine wk_yldW _ ?_) | (refine layOwe _ (by kernel_rfl) ?_) | (refine owe ?_ (fun ho => ?_)) | (simp (disch := first | assumption | omega | (simp; done) | (simp; omega)) [-getElem?_pos, List.getElem?_cons_zero, List.getElem?_cons_succ]))
  all_goals try (exfalso; omega)
  refine wp_loopE cfg rfl (fun f0 h0 m fr h => ∃ i : Nat, fr 0 = f0 0 ∧ fr 4 = .int .i64 i ∧ h.bs = h0.bs ∧ (i + m = l.length) ∧ (∀ j, j < i → ¬ 64 < (nth l j).length)) (l.length) _ _ ⟨0, rfl, by first | rfl | (simp; done) | (simp [R]; done) | simp [R], rfl, by first | rfl | (simp; done) | omega, fun j hj => by omega⟩ ?_
  rintro Am Af Ah ⟨i, A0, A4, Abs, hm, ht⟩ Aih
  try simp at A0 Abs
  by_cases hi : i < l.length
  · have hsi := (smL_nth hs hi).1
    by_cases hlg : 64 < (nth l i).length
    · have hF2 := fuS_long hi hlg
      rw [hF] at hF2
      subst hF2
      repeat' (first | (refine wpc_split _ (fun hc => ?_) (fun hc => ?_) <;> (try simp at hc)) | (refine ww_split _ (fun hc => ?_) (fun hc => ?_) <;> (try simp at hc)) | (refine wp_drawF (by kernel_rfl) ?_) | (refine wk_yldW _ ?_) | (refine layOwe _ (by kernel_rfl) ?_) | (refine owe ?_ (fun ho => ?_)) | (simp (disch := first | assumption | omega | (simp; done) | (simp; omega)) [A0, A4, Abs, eR, -getElem?_pos, List.getElem?_cons_zero, List.getElem?_cons_succ]))
      all_goals first | rfl | (exfalso; omega)
    · repeat' (first | (refine wpc_split _ (fun hc => ?_) (fun hc => ?_) <;> (try simp at hc)) | (refine ww_split _ (fun hc => ?_) (fun hc => ?_) <;> (try simp at hc)) | (refine wp_drawF (by kernel_rfl) ?_) | (refine wk_yldW _ ?_) | (refine layOwe _ (by kernel_rfl) ?_) | (refine owe ?_ (fun ho => ?_)) | (simp (disch := first | assumption | omega | (simp; done) | (simp; omega)) [A0, A4, Abs, eR, -getElem?_pos, List.getElem?_cons_zero, List.getElem?_cons_succ]))
      all_goals try (exfalso; omega)
      exact Aih (Am - 1) _ _ (by omega) ⟨i + 1, by simp [A0, A4, Abs], by simp [A0, A4, Abs], by simp [A0, A4, Abs], by omega, fun j hj => by (by_cases e : j = i; (subst e; exact hlg); exact ht j (by omega))⟩
  · have hsh : ∀ j, j < l.length → ¬ 64 < (nth l j).length := fun j hj => ht j (by omega)
    clear ht hm
    repeat' (first | (refine wpc_split _ (fun hc => ?_) (fun hc => ?_) <;> (try simp at hc)) | (refine ww_split _ (fun hc => ?_) (fun hc => ?_) <;> (try simp at hc)) | (refine wp_drawF (by kernel_rfl) ?_) | (refine wk_yldW _ ?_) | (refine layOwe _ (by kernel_rfl) ?_) | (refine owe ?_ (fun ho => ?_)) | (simp (disch := first | assumption | omega | (simp; done) | (simp; omega)) [A0, A4, Abs, -getElem?_pos, List.getElem?_cons_zero, List.getElem?_cons_succ]))
    refine wp_loopE cfg rfl (fun f0 h0 m fr h => ∃ i : Nat, fr 0 = f0 0 ∧ fr 5 = .int .i64 i ∧ h.bs = h0.bs ∧ (i + m = l.length) ∧ (∀ j, j < i → ∀ k, k < (nth l j).length → rightC (nth (nth l j) k) = true)) (l.length) _ _ ⟨0, rfl, by first | rfl | (simp; done) | (simp [R]; done) | simp [R], rfl, by first | rfl | (simp; done) | omega, fun j hj => by omega⟩ ?_
    rintro Bm Bf Bh ⟨i, B0, B5, Bbs, hm, ht⟩ Bih
    try simp at B0 Bbs
    by_cases hi : i < l.length
    · have hsi := smL_nth hs hi
      have hsi1 := hsi.1
      repeat' (first | (refine wpc_split _ (fun hc => ?_) (fun hc => ?_) <;> (try simp at hc)) | (refine ww_split _ (fun hc => ?_) (fun hc => ?_) <;> (try simp at hc)) | (refine wp_drawF (by kernel_rfl) ?_) | (refine wk_yldW _ ?_) | (refine layOwe _ (by kernel_rfl) ?_) | (refine owe ?_ (fun ho => ?_)) | (simp (disch := first | assumption | omega | (simp; done) | (simp; omega)) [B0, B5, Bbs, A0, A4, Abs, -getElem?_pos, List.getElem?_cons_zero, List.getElem?_cons_succ]))
      refine wp_loopE cfg rfl (fun f0 h0 m fr h => ∃ k : Nat, fr 0 = f0 0 ∧ fr 5 = f0 5 ∧ fr 6 = .int .i64 k ∧ h.bs = h0.bs ∧ (k + m = (nth l i).length) ∧ (∀ j, j < k → rightC (nth (nth l i) j) = true)) ((nth l i).length) _ _ ⟨0, rfl, rfl, by first | rfl | (simp; done) | (simp [R]; done) | simp [R], rfl, by first | rfl | (simp; done) | omega, fun j hj => by omega⟩ ?_
      rintro Cm Cf Ch ⟨k, C0, C5, C6, Cbs, hm2, ht2⟩ Cih
      try simp [B0, B5, Bbs] at C0 C5 Cbs
      by_cases hk : k < (nth l i).length
      · have hck := smS_nth hsi hk
        cases hw : rightC (nth (nth l i) k) with
        | false =>
          have hF2 := fuS_odd h16 hsh hi hk hw
          rw [hF] at hF2
          subst hF2
          have hw2 : rightC ⟨(nth (nth l i) k).text, (nth (nth l i) k).alts⟩ = false := hw
          repeat' (first | (refine wpc_split _ (fun hc => ?_) (fun hc => ?_) <;> (try simp at hc)) | (refine ww_split _ (fun hc => ?_) (fun hc => ?_) <;> (try simp at hc)) | (refine wp_drawF (by kernel_rfl) ?_) | (refine wk_yldW _ ?_) | (refine layOwe _ (by kernel_rfl) ?_) | (refine owe ?_ (fun ho => ?_)) | (simp (disch := first | assumption | omega | (simp; done) | (simp; omega)) [C0, C5, C6, Cbs, B0, B5, Bbs, A0, A4, Abs, eR, hw2, hck, -getElem?_pos, List.getElem?_cons_zero, List.getElem?_cons_succ]))
          all_goals rfl
        | true =>
          have hw2 : rightC ⟨(nth (nth l i) k).text, (nth (nth l i) k).alts⟩ = true := hw
          repeat' (first | (refine wpc_split _ (fun hc => ?_) (fun hc => ?_) <;> (try simp at hc)) | (refine ww_split _ (fun hc => ?_) (fun hc => ?_) <;> (try simp at hc)) | (refine wp_drawF (by kernel_rfl) ?_) | (refine wk_yldW _ ?_) | (refine layOwe _ (by kernel_rfl) ?_) | (refine owe ?_ (fun ho => ?_)) | (simp (disch := first | assumption | omega | (simp; done) | (simp; omega)) [C0, C5, C6, Cbs, B0, B5, Bbs, A0, A4, Abs, eR, hw2, hck, -getElem?_pos, List.getElem?_cons_zero, List.getElem?_cons_succ]))
          exact Cih (Cm - 1) _ _ (by omega) ⟨k + 1, by simp [C0, C5, C6, Cbs, B0, B5, Bbs], by simp [C0, C5, C6, Cbs, B0, B5, Bbs], by simp [C0, C5, C6, Cbs, B0, B5, Bbs], by simp [C0, C5, C6, Cbs, B0, B5, Bbs], by omega, fun j hj => by (by_cases e : j = k; (subst e; exact hw); exact ht2 j (by omega))⟩
      · repeat' (first | (refine wpc_split _ (fun hc => ?_) (fun hc => ?_) <;> (try simp at hc)) | (refine ww_split _ (fun hc => ?_) (fun hc => ?_) <;> (try simp at hc)) | (refine wp_drawF (by kernel_rfl) ?_) | (refine wk_yldW _ ?_) | (refine layOwe _ (by kernel_rfl) ?_) | (refine owe ?_ (fun ho => ?_)) | (simp (disch := first | assumption | omega | (simp; done) | (simp; omega)) [C0, C5, C6, Cbs, B0, B5, Bbs, A0, A4, Abs, eR, -getElem?_pos, List.getElem?_cons_zero, List.getElem?_cons_succ]))
        exact Bih (Bm - 1) _ _ (by omega) ⟨i + 1, by simp [C0, C5, C6, Cbs, B0, B5, Bbs], by simp [C0, C5, C6, Cbs, B0, B5, Bbs], by simp [C0, C5, C6, Cbs, B0, B5, Bbs], by omega, fun j hj k2 hk2 => by (by_cases e : j = i; (subst e; exact ht2 k2 (by omega)); exact ht j (by omega) k2 hk2)⟩
    · have hrt : ∀ j, j < l.length → ∀ k, k < (nth l j).length → rightC (nth (nth l j) k) = true := fun j hj => ht j (by omega)
      have hgo := fuS_right h16 hsh hrt
      rw [hF] at hgo
      clear ht hm
      repeat' (first | (refine wpc_split _ (fun hc => ?_) (fun hc => ?_) <;> (try simp at hc)) | (refine ww_split _ (fun hc => ?_) (fun hc => ?_) <;> (try simp at hc)) | (refine wp_drawF (by kernel_rfl) ?_) | (refine wk_yldW _ ?_) | (refine layOwe _ (by kernel_rfl) ?_) | (refine owe ?_ (fun ho => ?_)) | (simp (disch := first | assumption | omega | (simp; done) | (simp; omega)) [B0, B5, Bbs, A0, A4, Abs, -getElem?_pos, List.getElem?_cons_zero, List.getElem?_cons_succ]))
      refine wp_loopE cfg rfl (fun f0 h0 m fr h => ∃ i : Nat, ∃ x : List (List Cell), ∃ fl : Fl, fr 0 = f0 0 ∧ fr 7 = R fl (eR eC) x ∧ fr 8 = .int .i64 i ∧ h.bs = h0.bs ∧ (i + m = l.length) ∧ (OkX i x) ∧ (x.length ≤ 128) ∧ (goL i x (l.drop i) = F)) (l.length) _ _ ⟨0, [], (false, true, none), rfl, by first | rfl | (simp; done) | (simp [R]; done) | simp [R], by first | rfl | (simp; done) | (simp [R]; done) | simp [R], rfl, by first | rfl | (simp; done) | omega, OkX.nil, by first | rfl | (simp; done) | omega, hgo.symm⟩ ?_
      rintro Cm Cf Ch ⟨i, x, fl, C0, C7, C8, Cbs, hm, hok, hxl, hg⟩ Cih
      try simp at C0 Cbs
      by_cases hi : i < l.length
      · rw [nth_drop hi] at hg
        by_cases hlg : 64 < x.length
        · rw [goL_long hlg] at hg
          subst hg
          repeat' (first | (refine wpc_split _ (fun hc => ?_) (fun hc => ?_) <;> (try simp at hc)) | (refine ww_split _ (fun hc => ?_) (fun hc => ?_) <;> (try simp at hc)) | (refine wp_drawF (by kernel_rfl) ?_) | (refine wk_yldW _ ?_) | (refine layOwe _ (by kernel_rfl) ?_) | (refine owe ?_ (fun ho => ?_)) | (simp (disch := first | assumption | omega | (simp; done) | (simp; omega)) [C0, C7, C8, Cbs, B0, B5, Bbs, A0, A4, Abs, -getElem?_pos, List.getElem?_cons_zero, List.getElem?_cons_succ]))
          all_goals first | rfl | (exfalso; omega)
        · rw [goL_step hlg] at hg
          have hrl := hsh i hi
          have hro := row_ok hs hi hrt
          have hfit := hok.fit (by omega) (by omega) (by omega) hro
          have hyl : ∀ y ∈ x, y.length ≤ 1024 := fun y hy => by have := hok.len y hy; omega
          have hpl := putL_len i x (nth l i)
          repeat' (first | (refine wpc_split _ (fun hc => ?_) (fun hc => ?_) <;> (try simp at hc)) | (refine ww_split _ (fun hc => ?_) (fun hc => ?_) <;> (try simp at hc)) | (refine wp_drawF (by kernel_rfl) ?_) | (refine wk_yldW _ ?_) | (refine layOwe _ (by kernel_rfl) ?_) | (refine owe ?_ (fun ho => ?_)) | (simp (disch := first | assumption | omega | (simp; done) | (simp; omega)) [C0, C7, C8, Cbs, B0, B5, Bbs, A0, A4, Abs, eR, hfit, hyl, -getElem?_pos, List.getElem?_cons_zero, List.getElem?_cons_succ]))
          all_goals try (exfalso; omega)
          exact Cih (Cm - 1) _ _ (by omega) ⟨i + 1, _, fl0, by simp [C0, C7, C8, Cbs], by simp [C0, C7, C8, Cbs], by simp [C0, C7, C8, Cbs], by simp [C0, C7, C8, Cbs], by omega, hok.step hro, by omega, hg⟩
      · have he : l.drop i = [] := List.drop_eq_nil_of_le (by omega)
        rw [he, goL] at hg
        subst hg
        repeat' (first | (refine wpc_split _ (fun hc => ?_) (fun hc => ?_) <;> (try simp at hc)) | (refine ww_split _ (fun hc => ?_) (fun hc => ?_) <;> (try simp at hc)) | (refine wp_drawF (by kernel_rfl) ?_) | (refine wk_yldW _ ?_) | (refine layOwe _ (by kernel_rfl) ?_) | (refine owe ?_ (fun ho => ?_)) | (simp (disch := first | assumption | omega | (simp; done) | (simp; omega)) [C0, C7, C8, Cbs, B0, B5, Bbs, A0, A4, Abs, -getElem?_pos, List.getElem?_cons_zero, List.getElem?_cons_succ]))
@[simp] theorem S12 (l : List (List Cell)) (hs : smL l) (q1 : Fl) (hh : Heap) : Ci cfg (.func (.func 12) [] []) [R  q1 (eR eC) l] hh = some (.ret (.tuple [R fl0 (eR eC) (fuS l).1, .int .i64 (fuS l).2]), hh) :=
  Ci_K cfg rfl rfl (by simp) (by simp) (C12 l hs)
end Go.Ab
