/- A part of the proof. -/
import Derived.Test.YtippeibeiofmnaaDoorGr10
import Derived.Test.YtippeibeiofmnaaDoorN5
import Derived.Test.YtippeibeiofmnaaDoorGr12
import Derived.Test.YtippeibeiofmnaaDoorGr6
set_option linter.unusedVariables false
set_option linter.unusedSimpArgs false
set_option linter.unusedSectionVars false
set_option linter.deprecated false
namespace Go.Ab
open Go.Proofs
set_option maxRecDepth 100000
set_option maxHeartbeats 4000000
theorem KeyZ.pair {t : List Sgn} (ht : sTab t) {i k : Nat} (hi : i < t.length) (hk : k < t.length) : KeyZ t (stepZ (nth t i).cells (nth t k).cells).1 := by
 unfold stepZ
 split
 ·exact KeyZ.drop hi (ht.2 k hk).1
 ·split
  ·exact KeyZ.drop hk (ht.2 i hi).1
  ·exact .inl rfl
theorem trySt_eq (t : List Sgn) (c : List Int → Int) (i k : Nat) (b : Int × List Int × List Int) : trySt t c i k b =
  if (stepZ (nth t i).cells (nth t k).cells).2.2.2 = false ∨ neverZ ≤ ((nth t i).cells.length : Int) + (stepZ (nth t i).cells (nth t k).cells).2.1 + c (stepZ (nth t i).cells (nth t k).cells).1 ∨ b.1 < ((nth t i).cells.length : Int) + (stepZ (nth t i).cells (nth t k).cells).2.1 + c (stepZ (nth t i).cells (nth t k).cells).1 then b
  else if ((nth t i).cells.length : Int) + (stepZ (nth t i).cells (nth t k).cells).2.1 + c (stepZ (nth t i).cells (nth t k).cells).1 < b.1 ∨
    lessZ ((i : Int) :: (finZ t c (stepZ (nth t i).cells (nth t k).cells).1 (!(stepZ (nth t i).cells (nth t k).cells).2.2.1)).1, (k : Int) :: (finZ t c (stepZ (nth t i).cells (nth t k).cells).1 (!(stepZ (nth t i).cells (nth t k).cells).2.2.1)).2) (b.2.1, b.2.2) = true then
   (((nth t i).cells.length : Int) + (stepZ (nth t i).cells (nth t k).cells).2.1 + c (stepZ (nth t i).cells (nth t k).cells).1, (i : Int) :: (finZ t c (stepZ (nth t i).cells (nth t k).cells).1 (!(stepZ (nth t i).cells (nth t k).cells).2.2.1)).1, (k : Int) :: (finZ t c (stepZ (nth t i).cells (nth t k).cells).1 (!(stepZ (nth t i).cells (nth t k).cells).2.2.1)).2)
  else b := rfl
section
variable {t : List Sgn} (ht : sTab t) {c c' : List Int → Int} (h : ∀ w, KeyZ t w → c w = c' w)
include ht h
theorem onWay_congr {w : List Int} (hw : KeyZ t w) (hne : w ≠ []) {k : Nat} (hk : k < t.length) : onWay t c w k = onWay t c' w k := by
 unfold onWay
 cases ho : (stepZ w (nth t k).cells).2.2.2 with
 | false => rfl
 | true => rw [h w hw, h _ (hw.step ht hne hk ho)]
theorem finF_congr : ∀ (f : Nat) (w : List Int) (a : Bool), KeyZ t w → finF t c f w a = finF t c' f w a
 | 0, w, a, _ => rfl
 | f + 1, w, a, hw => by
  by_cases hne : w = []
  ·subst hne; rw [finF_nil, finF_nil]
  ·rw [finF_best t c f hne, finF_best t c' f hne]
   have key : ∀ m, m ≤ t.length → bestF t c f w a m = bestF t c' f w a m := by
    intro m
    induction m with
    | zero => intro _; rfl
    | succ m ih =>
     intro hm
     rw [bestF, bestF, ih (by omega), onWay_congr ht h hw hne (by omega)]
     split
     ·rename_i ho
      rw [finF_congr f _ _ (hw.step ht hne (by omega) (onWay_of ho).1)]
     ·rfl
   rw [key _ (Nat.le_refl _)]
theorem finZ_congr {w : List Int} (hw : KeyZ t w) (a : Bool) : finZ t c w a = finZ t c' w a := by
 unfold finZ phiZ
 rw [h w hw]
 exact finF_congr ht h _ w a hw
theorem trySt_congr {i k : Nat} (hi : i < t.length) (hk : k < t.length) (b : Int × List Int × List Int) : trySt t c i k b = trySt t c' i k b := by
 rw [trySt_eq, trySt_eq, h _ (KeyZ.pair ht hi hk), finZ_congr ht h (KeyZ.pair ht hi hk)]
theorem rowSt_congr {i : Nat} (hi : i < t.length) : ∀ (m : Nat) (b : Int × List Int × List Int), i + 1 + m ≤ t.length → rowSt t c i m b = rowSt t c' i m b
 | 0, b, _ => rfl
 | m + 1, b, hm => by
  have e : ∀ c, rowSt t c i (m + 1) b = trySt t c i (i + 1 + m) (rowSt t c i m b) := fun c => by unfold rowSt; rw [List.range_succ, List.foldl_append]; rfl
  rw [e, e, rowSt_congr hi m b (by omega), trySt_congr ht h hi (by omega)]
theorem allSt_congr : ∀ (m : Nat), m ≤ t.length → allSt t c m = allSt t c' m
 | 0, _ => rfl
 | m + 1, hm => by
  have e : ∀ c, allSt t c (m + 1) = rowSt t c m (t.length - (m + 1)) (allSt t c m) := fun c => by unfold allSt; rw [List.range_succ, List.foldl_append]; rfl
  rw [e, e, allSt_congr m (by omega), rowSt_congr ht h (by omega) _ _ (by omega)]
end
theorem twice_at {t : List Sgn} (hc : checkZ t = 0) {c : List Int → Int} (h : ∀ w, KeyZ t w → costZ t w = c w) : twiceZ t = ((allSt t c t.length).2.1, (allSt t c t.length).2.2, decide ((allSt t c t.length).1 < neverZ), 0) := by
 unfold twiceZ
 rw [if_neg (by simp [hc]), allSt_congr (sTab_of hc) h t.length (Nat.le_refl _)]
def t3 : List Sgn := [⟨[97], [1]⟩, ⟨[98], [3]⟩, ⟨[97, 98], [7]⟩]
def u1 : List Sgn := [⟨[97], [1]⟩, ⟨[98], [1, 2]⟩, ⟨[99], [2]⟩]
def u2 : List Sgn := [⟨[97], [1]⟩, ⟨[98], [1, 2]⟩]
theorem x_e1 : encodeZ t3 [97, 98, 98] = ([2, 1], [7, 3], true, 0) := by decide +kernel
theorem x_e2 : encodeZ t3 [] = ([], [], true, 0) := by decide +kernel
theorem x_e3 : encodeZ t3 [99] = ([], [], false, 0) := by decide +kernel
theorem x_d1 : decodeZ t3 [1, 3, 7] = ([97, 98, 97, 98], true, 0) := by decide +kernel
theorem x_d2 : decodeZ t3 [] = ([], true, 0) := by decide +kernel
theorem x_d3 : decodeZ t3 [2] = ([], false, 0) := by decide +kernel
theorem x_d4 : decodeZ t3 [64] = ([], false, 120) := by decide +kernel
theorem x_c1 : checkZ [] = 120 := by decide +kernel
theorem x_c2 : checkZ t3 = 0 := by decide +kernel
theorem x_c3 : checkZ (t3 ++ t3) = 120 := by decide +kernel
theorem x_u1 : checkZ u1 = 0 := by decide +kernel
theorem x_u2 : checkZ u2 = 0 := by decide +kernel
theorem key_u1 {w : List Int} (h : KeyZ u1 w) : w = [] ∨ w = [2] := by
 rcases h with h | ⟨k, a, hk, ha, hl, rfl⟩
 ·exact .inl h
 ·have hk : k = 0 ∨ k = 1 ∨ k = 2 := by
   have : k < 3 := hk
   omega
  rcases hk with rfl | rfl | rfl
  ·have : a < 1 := hl
   omega
  ·have : a < 2 := hl
   obtain rfl : a = 1 := by omega
   exact .inr rfl
  ·have : a < 1 := hl
   omega
theorem key_u2 {w : List Int} (h : KeyZ u2 w) : w = [] ∨ w = [2] := by
 rcases h with h | ⟨k, a, hk, ha, hl, rfl⟩
 ·exact .inl h
 ·have hk : k = 0 ∨ k = 1 := by
   have : k < 2 := hk
   omega
  rcases hk with rfl | rfl
  ·have : a < 1 := hl
   omega
  ·have : a < 2 := hl
   obtain rfl : a = 1 := by omega
   exact .inr rfl
theorem x_t1 : twiceZ u1 = ([0, 2], [1], true, 0) := by
 have hE : Ends u1 [2] 0 := by
  have e : stepZ [2] (nth u1 2).cells = ([], 0, false, true) := by decide +kernel
  have := Ends.step (t := u1) (w := [2]) (k := 2) (m := 0) (by decide) (by decide) (by rw [e]) (by rw [e]; exact .nil)
  rw [e] at this
  exact this
 rw [twice_at x_u1 (c := fun _ => 0) (fun w hw => by
  rcases key_u1 hw with rfl | rfl
  ·exact costZ_nil _
  ·exact costZ_of ⟨by decide, .inr hE, fun n hn => hn.nn⟩)]
 decide +kernel
theorem x_t2 : twiceZ u2 = ([], [], false, 0) := by
 have hE : ∀ n, ¬ Ends u2 [2] n := fun n h => by
  cases h with
  | @step _ k _ hw hk ho _ =>
   have hk : k = 0 ∨ k = 1 := by
    have : k < 2 := hk
    omega
   rcases hk with rfl | rfl
   ·exact absurd ho (by decide +kernel)
   ·exact absurd ho (by decide +kernel)
 rw [twice_at x_u2 (c := fun w => if w = [] then 0 else neverZ) (fun w hw => by
  rcases key_u2 hw with rfl | rfl
  ·exact costZ_nil _
  ·exact costZ_of ⟨Int.le_refl _, .inl rfl, fun n hn => absurd hn (hE n)⟩)]
 decide +kernel
end Go.Ab
namespace Go.Ab
open Go.Proofs
set_option maxRecDepth 100000
set_option maxHeartbeats 8000000
theorem nr_move {c : Cfg} {Q : Ax → St → Prop} {s : St} {ops : Array Oper} {i : Nat} {l : List Nat} {o : Oper} {x : Operand} (ho : ops[i]? = some o) (hop : o.op = .move x) (hg : o.guard = none)
    (k : NR c ops l { s with t := putT s.t o.dst (evT c s.t x) } Q) : NR c ops (i :: l) s Q := by
  intro g n0 C f t w K hr
  have hwant : Region.wanted o (yielded ops t.tmps) = true := wantedV_ok hr.t (by simp [wantedV, hg])
  have hsem : o.semAt f.roundOf t.eval = execOp t.eval o := Oper.semAt_eq _ _ _ (fun cl => by rw [hop]; simp)
  have hv := ev_rep hr.glob hr.t x
  obtain ⟨ax, s1, g1, a1, w2, hq, e1, e2, e3⟩ := k g n0 C f _ w K (hr.put (.refl g) hr.inv o.dst hv)
  exact ⟨ax, s1, g1, a1, w2, hq, e1, e2, .of_steps (.one (step_op_value ho hwant (by rw [hsem]; simp [execOp, hop]))) e3⟩
theorem rowSt_succ (t : List Sgn) (c : List Int → Int) (i m : Nat) (b : Int × List Int × List Int) : rowSt t c i (m + 1) b = trySt t c i (i + 1 + m) (rowSt t c i m b) := by
  unfold rowSt; rw [List.range_succ, List.foldl_append]; rfl
theorem allSt_succ (t : List Sgn) (c : List Int → Int) (m : Nat) : allSt t c (m + 1) = rowSt t c m (t.length - (m + 1)) (allSt t c m) := by
  unfold allSt; rw [List.range_succ, List.foldl_append]; rfl
def noCallO (f : FuncId) (o : Oper) : Bool := match o.op with
  | .call cl => match cl.callee with
    | .value (.func g) => g != f
    | _ => true
  | _ => true
def noCall (f : FuncId) : Code → Bool
  | .region _ ops _ => ops.toList.all (noCallO f)
  | .seq a b | .cond _ a b => noCall f a && noCall f b
  | .block _ b | .loop b | .scope b => noCall f b
  | .rangeFunc _ _ a b => noCall f a && noCall f b
  | _ => true
namespace Tw
theorem nsf_detN {c : Cfg} {K : List Fr} {Q : Ax → St → Prop} {s : St} {a : Code} (hP : PrOk c.P) (hX : ExtOk c) (_ : noCall 44 a = true) (h : wp c a s [] (nk c K Q)) : NSf c a s K Q := nsf_det hP hX h
theorem twice_ps {t : List Sgn} (hs : smZs t) : PS 19 [R fl0 eZ t] (twiceR (R fl0 eZ t)) := by
  have hs1 := hs.1
  unfold twiceR
  rw [tabV_R]
  refine psim_of_nsf (c := cfg) hP hX (fn := Tryd.f19) Tryd.func19 rfl (by simp [Tryd.f19]) ?_
  by_cases hc : checkZ t = 0
  · have ht := sTab_of hc
    have htl := ht.1
    have hsl := sigZ_len t
    have hE : twiceZ t = ((allSt t (costZ t) t.length).2.1, (allSt t (costZ t) t.length).2.2, decide ((allSt t (costZ t) t.length).1 < neverZ), 0) := by unfold twiceZ; rw [if_neg (by simp [hc])]
    rw [hE]
    repeat' (first | (refine nsf_detN hP hX (by decide +kernel) ?_) | (refine nsf_seq ?_) | (refine nsf_block ?_) | ((first | refine wpc_split _ ?_ ?_ | refine ww_split _ ?_ ?_) <;> intro hc <;> try simp at hc) | (refine wp_drawF (by kernel_rfl) ?_) | refine wk_yldW _ ?_ | refine layOwe _ (by kernel_rfl) ?_ | refine owe ?_ (fun ho => ?_) | (simp (disch := first | assumption | omega | (simp; done) | (simp; omega)) [hc, emptyH, Tryd.f19, -getElem?_pos, gZ, gS]))
    all_goals try (exfalso; omega)
    refine wp_loopE cfg rfl (fun f0 h0 m fr h => ∃ i : Nat, ∃ fl : Fl, ∃ X : List Blk, fr 0 = f0 0 ∧ fr 2 = f0 2 ∧ fr 3 = f0 3 ∧ fr 7 = f0 7 ∧ fr 29 = f0 29 ∧ fr 30 = f0 30 ∧ fr 31 = .int .i64 i ∧ (h.bs = .cells [R fl eS (sigZ (t.take i)), .nilmap] :: X) ∧ (App h.ts 1 fl) ∧ (i + m = t.length)) (t.length) _ _ ⟨0, (true, true, none), [], rfl, rfl, rfl, rfl, rfl, rfl, by first | rfl | (simp; done) | (simp [R]; done) | simp [R], by simp [sigZ, R], App.nil _ _ _, by first | rfl | (simp; done) | omega⟩ ?_
    rintro Am Af Ah ⟨i, fl, X, A0, A2, A3, A7, A29, A30, A31, hb, ha, hm⟩ Aih
    try simp at A0 A2 A3 A7 A29 A30
    by_cases hi : i < t.length
    · obtain ⟨e1, e2, e3⟩ := ht.2 i hi
      obtain ⟨k1, k2⟩ := smZs_nth hs hi
      have hst : sigZ (t.take (i + 1)) = sigZ (t.take i) ++ [bZ (nth t i).cells] := by rw [nth_take hi]; simp [sigZ]
      have hl : (sigZ (t.take i)).length + 1 ≤ 4294967296 := by rw [sigZ_len, List.length_take]; omega
      have hne : ¬ [bZ (nth t i).cells] = [] := by simp
      have hlit : V.row false true [.str (bZ (nth t i).cells)] 1 none = R (false, true, none) eS [bZ (nth t i).cells] := rfl
      have hap := append_R (P := Tryd.prog) (h := ⟨.cells [R fl eS (sigZ (t.take i)), .nilmap] :: (X ++ [.cells [.str (nth t i).text, R fl0 eI (nth t i).cells]]), Ah.ts⟩) (E := eS) (sz := 1) (by' := 16) (ts := #[68, 68]) (by simp) (fl2 := (false, true, none)) hne ha (by simpa using hl) (by decide)
      repeat' (first | (refine nsf_detN hP hX (by decide +kernel) ?_) | (refine nsf_seq ?_) | (refine nsf_block ?_) | ((first | refine wpc_split _ ?_ ?_ | refine ww_split _ ?_ ?_) <;> intro hc <;> try simp at hc) | (refine wp_drawF (by kernel_rfl) ?_) | refine wk_yldW _ ?_ | refine layOwe _ (by kernel_rfl) ?_ | refine owe ?_ (fun ho => ?_) | (simp (disch := first | assumption | omega | (simp; done) | (simp; omega)) [A0, A2, A3, A7, A29, A30, A31, hb, hi, e3, hlit, hap, app_at, app_at0, -getElem?_pos, gZ, gS]))
      all_goals try (exfalso; omega)
      exact Aih (Am - 1) _ _ (by omega) ⟨i + 1, (false, false, some Ah.ts.length), X ++ [.cells [.str (nth t i).text, R fl0 eI (nth t i).cells]], by simp [A0, A2, A3, A7, A29, A30, A31, hst], by simp [A0, A2, A3, A7, A29, A30, A31, hst], by simp [A0, A2, A3, A7, A29, A30, A31, hst], by simp [A0, A2, A3, A7, A29, A30, A31, hst], by simp [A0, A2, A3, A7, A29, A30, A31, hst], by simp [A0, A2, A3, A7, A29, A30, A31, hst], by simp [A0, A2, A3, A7, A29, A30, A31, hst], (by simp [hst]), App.new _ _ _, by omega⟩
    · obtain rfl : i = t.length := by omega
      rw [List.take_length] at hb
      clear Aih
      have hA : Ah = ⟨.cells [R fl eS (sigZ t), .nilmap] :: X, Ah.ts⟩ := by rw [← hb]
      have hfill := fillNB ht fl X Ah.ts
      rw [← hA] at hfill
      repeat' (first | (refine nsf_detN hP hX (by decide +kernel) ?_) | (refine nsf_seq ?_) | (refine nsf_block ?_) | ((first | refine wpc_split _ ?_ ?_ | refine ww_split _ ?_ ?_) <;> intro hc <;> try simp at hc) | (refine wp_drawF (by kernel_rfl) ?_) | refine wk_yldW _ ?_ | refine layOwe _ (by kernel_rfl) ?_ | refine owe ?_ (fun ho => ?_) | (simp (disch := first | assumption | omega | (simp; done) | (simp; omega)) [A0, A2, A3, A7, A29, A30, A31, -getElem?_pos, gZ, gS]))
      all_goals try (exfalso; omega)
      refine nsf_region ?_
      refine nr_move rfl rfl rfl ?_
      refine nr_call (f := 44) (first := []) (cap := []) (X := fun r h => r = .ret (.tuple []) ∧ ∃ D Y, h = ⟨srcB t fl X D Y, Ah.ts⟩ ∧ ∀ w, KeyZ t w → getG D (bZ w) = costZ t w) rfl rfl rfl rfl rfl ((congrArg (fun l => NB cfg 44 l Ah _) (by simp [A7])).mpr hfill) (fun v h hx => ?_) (fun v h hx => by cases hx.1)
      obtain ⟨hv, D, Y, rfl, hD⟩ := hx
      simp only [CRes.ret.injEq] at hv
      subst hv
      refine nr_det hP hX (i := 2) (l := []) rfl (Nat.le_refl _) ?_
      clear hfill hA
      repeat' (first | (refine nsf_detN hP hX (by decide +kernel) ?_) | (refine nsf_seq ?_) | (refine nsf_block ?_) | ((first | refine wpc_split _ ?_ ?_ | refine ww_split _ ?_ ?_) <;> intro hc <;> try simp at hc) | (refine wp_drawF (by kernel_rfl) ?_) | refine wk_yldW _ ?_ | refine layOwe _ (by kernel_rfl) ?_ | refine owe ?_ (fun ho => ?_) | (simp (disch := first | assumption | omega | (simp; done) | (simp; omega)) [A0, A2, A3, A7, A29, A30, A31, srcB_0, hsl, -getElem?_pos, gZ, gS]))
      all_goals try (exfalso; omega)
      refine wp_loopE cfg rfl (fun f0 h0 m fr h => ∃ i : Nat, ∃ Z : List Blk, ∃ qa : Fl, ∃ qb : Fl, fr 0 = f0 0 ∧ fr 7 = f0 7 ∧ fr 53 = f0 53 ∧ fr 54 = f0 54 ∧ fr 55 = .int .i64 i ∧ fr 10 = .int .i64 (allSt t (costZ t) i).1 ∧ fr 2 = R qa eI (allSt t (costZ t) i).2.1 ∧ fr 3 = R qb eI (allSt t (costZ t) i).2.2 ∧ (h.bs = srcB t fl X D Z) ∧ (i + m = t.length) ∧ ((allSt t (costZ t) i).2.1.length ≤ 4194304 ∧ (allSt t (costZ t) i).2.2.length ≤ 4194304)) (t.length) _ _ ⟨0, Y, (true, true, none), (true, true, none), rfl, rfl, rfl, rfl, by first | rfl | (simp; done) | (simp [R]; done) | simp [R], by first | rfl | (simp; done) | (simp [R]; done) | simp [R], by simp [A2, R, allSt], by simp [A3, R, allSt], by first | rfl | (simp; done) | omega, by first | rfl | (simp; done) | omega, ⟨Nat.zero_le _, Nat.zero_le _⟩⟩ ?_
      rintro Bm Bf Bh ⟨i, Z, qa, qb, B0, B7, B53, B54, B55, B10, B2, B3, hb2, hm2, hl2⟩ Bih
      try simp [A0, A2, A3, A7, A29, A30, A31] at B0 B7 B53 B54
      by_cases hi2 : i < t.length
      · obtain ⟨e1, e2, e3⟩ := ht.2 i hi2
        have hn := sigZ_nth hi2
        have hil : i < (sigZ t).length := by omega
        have l2 := bZ_len (nth t i).cells
        have hall := allSt_succ t (costZ t) i
        repeat' (first | (refine nsf_detN hP hX (by decide +kernel) ?_) | (refine nsf_seq ?_) | (refine nsf_block ?_) | ((first | refine wpc_split _ ?_ ?_ | refine ww_split _ ?_ ?_) <;> intro hc <;> try simp at hc) | (refine wp_drawF (by kernel_rfl) ?_) | refine wk_yldW _ ?_ | refine layOwe _ (by kernel_rfl) ?_ | refine owe ?_ (fun ho => ?_) | (simp (disch := first | assumption | omega | (simp; done) | (simp; omega)) [B0, B7, B53, B54, B55, B10, B2, B3, A0, A2, A3, A7, A29, A30, A31, hi2, hil, hn, hsl, eS, -getElem?_pos, gZ, gS]))
        all_goals try (exfalso; omega)
        refine wp_loopE cfg rfl (fun f0 h0 m fr h => ∃ d : Nat, ∃ Z2 : List Blk, ∃ ra : Fl, ∃ rb : Fl, fr 0 = f0 0 ∧ fr 7 = f0 7 ∧ fr 11 = f0 11 ∧ fr 12 = f0 12 ∧ fr 53 = f0 53 ∧ fr 54 = f0 54 ∧ fr 55 = f0 55 ∧ fr 13 = .int .i64 ((i : Int) + 1 + d) ∧ fr 10 = .int .i64 (rowSt t (costZ t) i d (allSt t (costZ t) i)).1 ∧ fr 2 = R ra eI (rowSt t (costZ t) i d (allSt t (costZ t) i)).2.1 ∧ fr 3 = R rb eI (rowSt t (costZ t) i d (allSt t (costZ t) i)).2.2 ∧ (h.bs = srcB t fl X D Z2) ∧ (i + 1 + d + m = t.length) ∧ ((rowSt t (costZ t) i d (allSt t (costZ t) i)).2.1.length ≤ 4194304 ∧ (rowSt t (costZ t) i d (allSt t (costZ t) i)).2.2.length ≤ 4194304)) (t.length - (i + 1)) _ _ ⟨0, Z, qa, qb, rfl, rfl, rfl, rfl, rfl, rfl, rfl, by simp, by simp [B10, rowSt], by simp [B2, rowSt], by simp [B3, rowSt], hb2, by first | rfl | (simp; done) | omega, hl2⟩ ?_
        rintro Cm Cf Ch ⟨d, Z2, ra, rb, C0, C7, C11, C12, C53, C54, C55, C13, C10, C2, C3, hb3, hm3, hl3⟩ Cih
        try simp [B0, B7, B53, B54, B55, B10, B2, B3, A0, A2, A3, A7, A29, A30, A31] at C0 C7 C11 C12 C53 C54 C55
        by_cases hk : i + 1 + d < t.length
        · have hrow := rowSt_succ t (costZ t) i d (allSt t (costZ t) i)
          obtain ⟨k, hkk⟩ : ∃ k, k = i + 1 + d := ⟨_, rfl⟩
          have hki : (i : Int) + 1 + d = (k : Int) := by omega
          rw [← hkk] at hrow hk
          rw [hki] at C13
          have hk2 : (k : Int) + 1 = (i : Int) + 1 + ((d : Int) + 1) := by omega
          have cs := Cstep ht e3 e2 hk (h := Ch) (p := 0) (fl := fl) (c := .map (X.length + 1)) (by rw [hb3]; exact srcB_0)
          have hkz := KeyZ.pair ht hi2 hk
          have lk := lookS (h := Ch) (n := X.length + 1) (D := D) (bZ (stepZ (nth t i).cells (nth t k).cells).1) (by rw [hb3]; exact srcB_m)
          rw [hD _ hkz] at lk
          have hnn := stepZ_nn (nth t i).cells (nth t k).cells
          obtain ⟨c1, c2⟩ := costZ_nn t (stepZ (nth t i).cells (nth t k).cells).1
          unfold neverZ at c2
          have hx4 : (stepZ (nth t i).cells (nth t k).cells).2.1 ≤ 4 := by
            have := (ht.2 k hk).2.1
            unfold stepZ
            split
            · simp
            · split
              · simp only; omega
              · simp
          have htry := hrow
          rw [trySt_eq] at htry
          clear hrow
          generalize hS : rowSt t (costZ t) i d (allSt t (costZ t) i) = S at *
          obtain ⟨le, sa, sb⟩ := S
          simp only at C10 C2 C3 hl3 htry
          generalize hst : stepZ (nth t i).cells (nth t k).cells = st at *
          cases ho : st.2.2.2 with
          | false =>
            rw [ho] at cs
            rw [if_pos (.inl ho)] at htry
            repeat' (first | (refine nsf_detN hP hX (by decide +kernel) ?_) | (refine nsf_seq ?_) | (refine nsf_block ?_) | ((first | refine wpc_split _ ?_ ?_ | refine ww_split _ ?_ ?_) <;> intro hc <;> try simp at hc) | (refine wp_drawF (by kernel_rfl) ?_) | refine wk_yldW _ ?_ | refine layOwe _ (by kernel_rfl) ?_ | refine owe ?_ (fun ho => ?_) | (simp (disch := first | assumption | omega | (simp; done) | (simp; omega)) [C0, C7, C11, C12, C53, C54, C55, C13, C10, C2, C3, B0, B7, B53, B54, B55, B10, B2, B3, A0, A2, A3, A7, A29, A30, A31, hb3, srcB_0, hk, cs, lk, l2, -getElem?_pos, gZ, gS]))
            all_goals try (exfalso; omega)
            exact Cih (Cm - 1) _ _ (by omega) ⟨d + 1, Z2, ra, rb, by simp [C0, C7, C11, C12, C53, C54, C55, C13, C10, C2, C3, B0, B7, B53, B54, B55, B10, B2, B3, A0, A2, A3, A7, A29, A30, A31, htry, hk2], by simp [C0, C7, C11, C12, C53, C54, C55, C13, C10, C2, C3, B0, B7, B53, B54, B55, B10, B2, B3, A0, A2, A3, A7, A29, A30, A31, htry, hk2], by simp [C0, C7, C11, C12, C53, C54, C55, C13, C10, C2, C3, B0, B7, B53, B54, B55, B10, B2, B3, A0, A2, A3, A7, A29, A30, A31, htry, hk2], by simp [C0, C7, C11, C12, C53, C54, C55, C13, C10, C2, C3, B0, B7, B53, B54, B55, B10, B2, B3, A0, A2, A3, A7, A29, A30, A31, htry, hk2], by simp [C0, C7, C11, C12, C53, C54, C55, C13, C10, C2, C3, B0, B7, B53, B54, B55, B10, B2, B3, A0, A2, A3, A7, A29, A30, A31, htry, hk2], by simp [C0, C7, C11, C12, C53, C54, C55, C13, C10, C2, C3, B0, B7, B53, B54, B55, B10, B2, B3, A0, A2, A3, A7, A29, A30, A31, htry, hk2], by simp [C0, C7, C11, C12, C53, C54, C55, C13, C10, C2, C3, B0, B7, B53, B54, B55, B10, B2, B3, A0, A2, A3, A7, A29, A30, A31, htry, hk2], by simp [C0, C7, C11, C12, C53, C54, C55, C13, C10, C2, C3, B0, B7, B53, B54, B55, B10, B2, B3, A0, A2, A3, A7, A29, A30, A31, htry, hk2], by simp [C0, C7, C11, C12, C53, C54, C55, C13, C10, C2, C3, B0, B7, B53, B54, B55, B10, B2, B3, A0, A2, A3, A7, A29, A30, A31, htry, hk2], by simp [C0, C7, C11, C12, C53, C54, C55, C13, C10, C2, C3, B0, B7, B53, B54, B55, B10, B2, B3, A0, A2, A3, A7, A29, A30, A31, htry, hk2], by simp [C0, C7, C11, C12, C53, C54, C55, C13, C10, C2, C3, B0, B7, B53, B54, B55, B10, B2, B3, A0, A2, A3, A7, A29, A30, A31, htry, hk2], hb3, by omega, (by rw [htry]; exact hl3)⟩
          | true =>
            rw [ho] at cs
            by_cases h1 : 1048576 ≤ ((nth t i).cells.length : Int) + st.2.1 + costZ t st.1
            · rw [if_pos (.inr (.inl h1))] at htry
              repeat' (first | (refine nsf_detN hP hX (by decide +kernel) ?_) | (refine nsf_seq ?_) | (refine nsf_block ?_) | ((first | refine wpc_split _ ?_ ?_ | refine ww_split _ ?_ ?_) <;> intro hc <;> try simp at hc) | (refine wp_drawF (by kernel_rfl) ?_) | refine wk_yldW _ ?_ | refine layOwe _ (by kernel_rfl) ?_ | refine owe ?_ (fun ho => ?_) | (simp (disch := first | assumption | omega | (simp; done) | (simp; omega)) [C0, C7, C11, C12, C53, C54, C55, C13, C10, C2, C3, B0, B7, B53, B54, B55, B10, B2, B3, A0, A2, A3, A7, A29, A30, A31, hb3, srcB_0, hk, cs, lk, l2, h1, -getElem?_pos, gZ, gS]))
              all_goals try (exfalso; omega)
              exact Cih (Cm - 1) _ _ (by omega) ⟨d + 1, Z2, ra, rb, by simp [C0, C7, C11, C12, C53, C54, C55, C13, C10, C2, C3, B0, B7, B53, B54, B55, B10, B2, B3, A0, A2, A3, A7, A29, A30, A31, htry, hk2], by simp [C0, C7, C11, C12, C53, C54, C55, C13, C10, C2, C3, B0, B7, B53, B54, B55, B10, B2, B3, A0, A2, A3, A7, A29, A30, A31, htry, hk2], by simp [C0, C7, C11, C12, C53, C54, C55, C13, C10, C2, C3, B0, B7, B53, B54, B55, B10, B2, B3, A0, A2, A3, A7, A29, A30, A31, htry, hk2], by simp [C0, C7, C11, C12, C53, C54, C55, C13, C10, C2, C3, B0, B7, B53, B54, B55, B10, B2, B3, A0, A2, A3, A7, A29, A30, A31, htry, hk2], by simp [C0, C7, C11, C12, C53, C54, C55, C13, C10, C2, C3, B0, B7, B53, B54, B55, B10, B2, B3, A0, A2, A3, A7, A29, A30, A31, htry, hk2], by simp [C0, C7, C11, C12, C53, C54, C55, C13, C10, C2, C3, B0, B7, B53, B54, B55, B10, B2, B3, A0, A2, A3, A7, A29, A30, A31, htry, hk2], by simp [C0, C7, C11, C12, C53, C54, C55, C13, C10, C2, C3, B0, B7, B53, B54, B55, B10, B2, B3, A0, A2, A3, A7, A29, A30, A31, htry, hk2], by simp [C0, C7, C11, C12, C53, C54, C55, C13, C10, C2, C3, B0, B7, B53, B54, B55, B10, B2, B3, A0, A2, A3, A7, A29, A30, A31, htry, hk2], by simp [C0, C7, C11, C12, C53, C54, C55, C13, C10, C2, C3, B0, B7, B53, B54, B55, B10, B2, B3, A0, A2, A3, A7, A29, A30, A31, htry, hk2], by simp [C0, C7, C11, C12, C53, C54, C55, C13, C10, C2, C3, B0, B7, B53, B54, B55, B10, B2, B3, A0, A2, A3, A7, A29, A30, A31, htry, hk2], by simp [C0, C7, C11, C12, C53, C54, C55, C13, C10, C2, C3, B0, B7, B53, B54, B55, B10, B2, B3, A0, A2, A3, A7, A29, A30, A31, htry, hk2], hb3, by omega, (by rw [htry]; exact hl3)⟩
            · by_cases h2 : le < ((nth t i).cells.length : Int) + st.2.1 + costZ t st.1
              · rw [if_pos (.inr (.inr h2))] at htry
                repeat' (first | (refine nsf_detN hP hX (by decide +kernel) ?_) | (refine nsf_seq ?_) | (refine nsf_block ?_) | ((first | refine wpc_split _ ?_ ?_ | refine ww_split _ ?_ ?_) <;> intro hc <;> try simp at hc) | (refine wp_drawF (by kernel_rfl) ?_) | refine wk_yldW _ ?_ | refine layOwe _ (by kernel_rfl) ?_ | refine owe ?_ (fun ho => ?_) | (simp (disch := first | assumption | omega | (simp; done) | (simp; omega)) [C0, C7, C11, C12, C53, C54, C55, C13, C10, C2, C3, B0, B7, B53, B54, B55, B10, B2, B3, A0, A2, A3, A7, A29, A30, A31, hb3, srcB_0, hk, cs, lk, l2, h1, h2, -getElem?_pos, gZ, gS]))
                all_goals try (exfalso; omega)
                exact Cih (Cm - 1) _ _ (by omega) ⟨d + 1, Z2, ra, rb, by simp [C0, C7, C11, C12, C53, C54, C55, C13, C10, C2, C3, B0, B7, B53, B54, B55, B10, B2, B3, A0, A2, A3, A7, A29, A30, A31, htry, hk2], by simp [C0, C7, C11, C12, C53, C54, C55, C13, C10, C2, C3, B0, B7, B53, B54, B55, B10, B2, B3, A0, A2, A3, A7, A29, A30, A31, htry, hk2], by simp [C0, C7, C11, C12, C53, C54, C55, C13, C10, C2, C3, B0, B7, B53, B54, B55, B10, B2, B3, A0, A2, A3, A7, A29, A30, A31, htry, hk2], by simp [C0, C7, C11, C12, C53, C54, C55, C13, C10, C2, C3, B0, B7, B53, B54, B55, B10, B2, B3, A0, A2, A3, A7, A29, A30, A31, htry, hk2], by simp [C0, C7, C11, C12, C53, C54, C55, C13, C10, C2, C3, B0, B7, B53, B54, B55, B10, B2, B3, A0, A2, A3, A7, A29, A30, A31, htry, hk2], by simp [C0, C7, C11, C12, C53, C54, C55, C13, C10, C2, C3, B0, B7, B53, B54, B55, B10, B2, B3, A0, A2, A3, A7, A29, A30, A31, htry, hk2], by simp [C0, C7, C11, C12, C53, C54, C55, C13, C10, C2, C3, B0, B7, B53, B54, B55, B10, B2, B3, A0, A2, A3, A7, A29, A30, A31, htry, hk2], by simp [C0, C7, C11, C12, C53, C54, C55, C13, C10, C2, C3, B0, B7, B53, B54, B55, B10, B2, B3, A0, A2, A3, A7, A29, A30, A31, htry, hk2], by simp [C0, C7, C11, C12, C53, C54, C55, C13, C10, C2, C3, B0, B7, B53, B54, B55, B10, B2, B3, A0, A2, A3, A7, A29, A30, A31, htry, hk2], by simp [C0, C7, C11, C12, C53, C54, C55, C13, C10, C2, C3, B0, B7, B53, B54, B55, B10, B2, B3, A0, A2, A3, A7, A29, A30, A31, htry, hk2], by simp [C0, C7, C11, C12, C53, C54, C55, C13, C10, C2, C3, B0, B7, B53, B54, B55, B10, B2, B3, A0, A2, A3, A7, A29, A30, A31, htry, hk2], hb3, by omega, (by rw [htry]; exact hl3)⟩
              · rw [if_neg (by simp [ho, neverZ]; omega)] at htry
                obtain ⟨x, rc, r1, r2, X2, ts2, hx⟩ := fin_ok ht hD (fl := fl) (m := X.length + 1) (phiZ (costZ t) st.1 + 1) (by unfold phiZ; have := (hkz.dots ht).2; omega) st.1 (!st.2.2.1) hkz (by unfold neverZ; omega) (by omega) (srcB t fl X D Z2) Ch.ts srcB_0 srcB_m
                subst hx
                obtain ⟨q1, q2⟩ := len_fin t (costZ t) (phiZ (costZ t) st.1 + 1) st.1 (!st.2.2.1)
                have hphi : phiZ (costZ t) st.1 + 1 ≤ 4000000 := by unfold phiZ; have := (hkz.dots ht).2; omega
                unfold finZ at htry
                generalize hq : finF t (costZ t) (phiZ (costZ t) st.1 + 1) st.1 (!st.2.2.1) = q at *
                rw [srcB_app] at rc
                obtain ⟨Zn, hZn⟩ : ∃ Zn, Zn = Z2 ++ X2 := ⟨_, rfl⟩
                rw [← hZn] at rc
                have hC : Ch = ⟨srcB t fl X D Z2, Ch.ts⟩ := by rw [← hb3]
                rw [← hC] at rc
                have hcond : (((nth t i).cells.length : Int) + st.2.1 + costZ t st.1 < le ∨ lessZ ((i : Int) :: q.1, (k : Int) :: q.2) (sa, sb) = true) ↔ (((nth t i).cells.length : Int) + st.2.1 + costZ t st.1 < le ∨ cmpL ((i : Int) :: q.1) sa < 0 ∨ ((i : Int) :: q.1 = sa ∧ cmpL ((k : Int) :: q.2) sb < 0)) := by
                  have y1 := cmpL_lt (a := (i : Int) :: q.1) (b := sa)
                  have y2 := cmpL_lt (a := (k : Int) :: q.2) (b := sb)
                  unfold lessZ
                  simp only [← y1, ← y2, Bool.or_eq_true, Bool.and_eq_true, decide_eq_true_eq]
                have hlen : ((i : Int) :: q.1).length ≤ 4194304 ∧ ((k : Int) :: q.2).length ≤ 4194304 := by simp only [List.length_cons]; omega
                cases htu : st.2.2.1 with
                | false =>
                  rw [htu] at cs rc
                  simp only [Bool.not_false, sw_t] at rc
                  repeat' (first | (refine nsf_detN hP hX (by decide +kernel) ?_) | (refine nsf_seq ?_) | (refine nsf_block ?_) | ((first | refine wpc_split _ ?_ ?_ | refine ww_split _ ?_ ?_) <;> intro hc <;> try simp at hc) | (refine wp_drawF (by kernel_rfl) ?_) | refine wk_yldW _ ?_ | refine layOwe _ (by kernel_rfl) ?_ | refine owe ?_ (fun ho => ?_) | (simp (disch := first | assumption | omega | (simp; done) | (simp; omega)) [C0, C7, C11, C12, C53, C54, C55, C13, C10, C2, C3, B0, B7, B53, B54, B55, B10, B2, B3, A0, A2, A3, A7, A29, A30, A31, hb3, srcB_0, hk, cs, lk, l2, h1, h2, rc, srcB_app, srcB_len, srcB_it, srcB_its, apL, -I46, -getElem?_pos, gZ, gS]))
                  all_goals try (exfalso; omega)
                  all_goals first
                    | (rw [if_pos (hcond.2 (by first | (left; omega) | (right; left; omega) | (right; right; exact ⟨by assumption, by omega⟩)))] at htry
                       exact Cih (Cm - 1) _ _ (by omega) ⟨d + 1, _, apF q.1 ts2, apF q.2 (apT q.1 ts2), by simp [C0, C7, C11, C12, C53, C54, C55, C13, C10, C2, C3, B0, B7, B53, B54, B55, B10, B2, B3, A0, A2, A3, A7, A29, A30, A31, htry, hk2], by simp [C0, C7, C11, C12, C53, C54, C55, C13, C10, C2, C3, B0, B7, B53, B54, B55, B10, B2, B3, A0, A2, A3, A7, A29, A30, A31, htry, hk2], by simp [C0, C7, C11, C12, C53, C54, C55, C13, C10, C2, C3, B0, B7, B53, B54, B55, B10, B2, B3, A0, A2, A3, A7, A29, A30, A31, htry, hk2], by simp [C0, C7, C11, C12, C53, C54, C55, C13, C10, C2, C3, B0, B7, B53, B54, B55, B10, B2, B3, A0, A2, A3, A7, A29, A30, A31, htry, hk2], by simp [C0, C7, C11, C12, C53, C54, C55, C13, C10, C2, C3, B0, B7, B53, B54, B55, B10, B2, B3, A0, A2, A3, A7, A29, A30, A31, htry, hk2], by simp [C0, C7, C11, C12, C53, C54, C55, C13, C10, C2, C3, B0, B7, B53, B54, B55, B10, B2, B3, A0, A2, A3, A7, A29, A30, A31, htry, hk2], by simp [C0, C7, C11, C12, C53, C54, C55, C13, C10, C2, C3, B0, B7, B53, B54, B55, B10, B2, B3, A0, A2, A3, A7, A29, A30, A31, htry, hk2], by simp [C0, C7, C11, C12, C53, C54, C55, C13, C10, C2, C3, B0, B7, B53, B54, B55, B10, B2, B3, A0, A2, A3, A7, A29, A30, A31, htry, hk2], by simp [C0, C7, C11, C12, C53, C54, C55, C13, C10, C2, C3, B0, B7, B53, B54, B55, B10, B2, B3, A0, A2, A3, A7, A29, A30, A31, htry, hk2], by simp [C0, C7, C11, C12, C53, C54, C55, C13, C10, C2, C3, B0, B7, B53, B54, B55, B10, B2, B3, A0, A2, A3, A7, A29, A30, A31, htry, hk2], by simp [C0, C7, C11, C12, C53, C54, C55, C13, C10, C2, C3, B0, B7, B53, B54, B55, B10, B2, B3, A0, A2, A3, A7, A29, A30, A31, htry, hk2], rfl, by omega, (by rw [htry]; exact hlen)⟩)
                    | (rw [if_neg (fun h => by rcases hcond.1 h with h | h | ⟨h, h'⟩ <;> first | omega | contradiction)] at htry
                       exact Cih (Cm - 1) _ _ (by omega) ⟨d + 1, _, ra, rb, by simp [C0, C7, C11, C12, C53, C54, C55, C13, C10, C2, C3, B0, B7, B53, B54, B55, B10, B2, B3, A0, A2, A3, A7, A29, A30, A31, htry, hk2], by simp [C0, C7, C11, C12, C53, C54, C55, C13, C10, C2, C3, B0, B7, B53, B54, B55, B10, B2, B3, A0, A2, A3, A7, A29, A30, A31, htry, hk2], by simp [C0, C7, C11, C12, C53, C54, C55, C13, C10, C2, C3, B0, B7, B53, B54, B55, B10, B2, B3, A0, A2, A3, A7, A29, A30, A31, htry, hk2], by simp [C0, C7, C11, C12, C53, C54, C55, C13, C10, C2, C3, B0, B7, B53, B54, B55, B10, B2, B3, A0, A2, A3, A7, A29, A30, A31, htry, hk2], by simp [C0, C7, C11, C12, C53, C54, C55, C13, C10, C2, C3, B0, B7, B53, B54, B55, B10, B2, B3, A0, A2, A3, A7, A29, A30, A31, htry, hk2], by simp [C0, C7, C11, C12, C53, C54, C55, C13, C10, C2, C3, B0, B7, B53, B54, B55, B10, B2, B3, A0, A2, A3, A7, A29, A30, A31, htry, hk2], by simp [C0, C7, C11, C12, C53, C54, C55, C13, C10, C2, C3, B0, B7, B53, B54, B55, B10, B2, B3, A0, A2, A3, A7, A29, A30, A31, htry, hk2], by simp [C0, C7, C11, C12, C53, C54, C55, C13, C10, C2, C3, B0, B7, B53, B54, B55, B10, B2, B3, A0, A2, A3, A7, A29, A30, A31, htry, hk2], by simp [C0, C7, C11, C12, C53, C54, C55, C13, C10, C2, C3, B0, B7, B53, B54, B55, B10, B2, B3, A0, A2, A3, A7, A29, A30, A31, htry, hk2], by simp [C0, C7, C11, C12, C53, C54, C55, C13, C10, C2, C3, B0, B7, B53, B54, B55, B10, B2, B3, A0, A2, A3, A7, A29, A30, A31, htry, hk2], by simp [C0, C7, C11, C12, C53, C54, C55, C13, C10, C2, C3, B0, B7, B53, B54, B55, B10, B2, B3, A0, A2, A3, A7, A29, A30, A31, htry, hk2], rfl, by omega, (by rw [htry]; exact hl3)⟩)
                | true =>
                  rw [htu] at cs rc
                  simp only [Bool.not_true, sw_f] at rc
                  repeat' (first | (refine nsf_detN hP hX (by decide +kernel) ?_) | (refine nsf_seq ?_) | (refine nsf_block ?_) | ((first | refine wpc_split _ ?_ ?_ | refine ww_split _ ?_ ?_) <;> intro hc <;> try simp at hc) | (refine wp_drawF (by kernel_rfl) ?_) | refine wk_yldW _ ?_ | refine layOwe _ (by kernel_rfl) ?_ | refine owe ?_ (fun ho => ?_) | (simp (disch := first | assumption | omega | (simp; done) | (simp; omega)) [C0, C7, C11, C12, C53, C54, C55, C13, C10, C2, C3, B0, B7, B53, B54, B55, B10, B2, B3, A0, A2, A3, A7, A29, A30, A31, hb3, srcB_0, hk, cs, lk, l2, h1, h2, rc, srcB_app, srcB_len, srcB_it, srcB_its, apL, -I46, -getElem?_pos, gZ, gS]))
                  all_goals try (exfalso; omega)
                  all_goals first
                    | (rw [if_pos (hcond.2 (by first | (left; omega) | (right; left; omega) | (right; right; exact ⟨by assumption, by omega⟩)))] at htry
                       exact Cih (Cm - 1) _ _ (by omega) ⟨d + 1, _, apF q.1 ts2, apF q.2 (apT q.1 ts2), by simp [C0, C7, C11, C12, C53, C54, C55, C13, C10, C2, C3, B0, B7, B53, B54, B55, B10, B2, B3, A0, A2, A3, A7, A29, A30, A31, htry, hk2], by simp [C0, C7, C11, C12, C53, C54, C55, C13, C10, C2, C3, B0, B7, B53, B54, B55, B10, B2, B3, A0, A2, A3, A7, A29, A30, A31, htry, hk2], by simp [C0, C7, C11, C12, C53, C54, C55, C13, C10, C2, C3, B0, B7, B53, B54, B55, B10, B2, B3, A0, A2, A3, A7, A29, A30, A31, htry, hk2], by simp [C0, C7, C11, C12, C53, C54, C55, C13, C10, C2, C3, B0, B7, B53, B54, B55, B10, B2, B3, A0, A2, A3, A7, A29, A30, A31, htry, hk2], by simp [C0, C7, C11, C12, C53, C54, C55, C13, C10, C2, C3, B0, B7, B53, B54, B55, B10, B2, B3, A0, A2, A3, A7, A29, A30, A31, htry, hk2], by simp [C0, C7, C11, C12, C53, C54, C55, C13, C10, C2, C3, B0, B7, B53, B54, B55, B10, B2, B3, A0, A2, A3, A7, A29, A30, A31, htry, hk2], by simp [C0, C7, C11, C12, C53, C54, C55, C13, C10, C2, C3, B0, B7, B53, B54, B55, B10, B2, B3, A0, A2, A3, A7, A29, A30, A31, htry, hk2], by simp [C0, C7, C11, C12, C53, C54, C55, C13, C10, C2, C3, B0, B7, B53, B54, B55, B10, B2, B3, A0, A2, A3, A7, A29, A30, A31, htry, hk2], by simp [C0, C7, C11, C12, C53, C54, C55, C13, C10, C2, C3, B0, B7, B53, B54, B55, B10, B2, B3, A0, A2, A3, A7, A29, A30, A31, htry, hk2], by simp [C0, C7, C11, C12, C53, C54, C55, C13, C10, C2, C3, B0, B7, B53, B54, B55, B10, B2, B3, A0, A2, A3, A7, A29, A30, A31, htry, hk2], by simp [C0, C7, C11, C12, C53, C54, C55, C13, C10, C2, C3, B0, B7, B53, B54, B55, B10, B2, B3, A0, A2, A3, A7, A29, A30, A31, htry, hk2], rfl, by omega, (by rw [htry]; exact hlen)⟩)
                    | (rw [if_neg (fun h => by rcases hcond.1 h with h | h | ⟨h, h'⟩ <;> first | omega | contradiction)] at htry
                       exact Cih (Cm - 1) _ _ (by omega) ⟨d + 1, _, ra, rb, by simp [C0, C7, C11, C12, C53, C54, C55, C13, C10, C2, C3, B0, B7, B53, B54, B55, B10, B2, B3, A0, A2, A3, A7, A29, A30, A31, htry, hk2], by simp [C0, C7, C11, C12, C53, C54, C55, C13, C10, C2, C3, B0, B7, B53, B54, B55, B10, B2, B3, A0, A2, A3, A7, A29, A30, A31, htry, hk2], by simp [C0, C7, C11, C12, C53, C54, C55, C13, C10, C2, C3, B0, B7, B53, B54, B55, B10, B2, B3, A0, A2, A3, A7, A29, A30, A31, htry, hk2], by simp [C0, C7, C11, C12, C53, C54, C55, C13, C10, C2, C3, B0, B7, B53, B54, B55, B10, B2, B3, A0, A2, A3, A7, A29, A30, A31, htry, hk2], by simp [C0, C7, C11, C12, C53, C54, C55, C13, C10, C2, C3, B0, B7, B53, B54, B55, B10, B2, B3, A0, A2, A3, A7, A29, A30, A31, htry, hk2], by simp [C0, C7, C11, C12, C53, C54, C55, C13, C10, C2, C3, B0, B7, B53, B54, B55, B10, B2, B3, A0, A2, A3, A7, A29, A30, A31, htry, hk2], by simp [C0, C7, C11, C12, C53, C54, C55, C13, C10, C2, C3, B0, B7, B53, B54, B55, B10, B2, B3, A0, A2, A3, A7, A29, A30, A31, htry, hk2], by simp [C0, C7, C11, C12, C53, C54, C55, C13, C10, C2, C3, B0, B7, B53, B54, B55, B10, B2, B3, A0, A2, A3, A7, A29, A30, A31, htry, hk2], by simp [C0, C7, C11, C12, C53, C54, C55, C13, C10, C2, C3, B0, B7, B53, B54, B55, B10, B2, B3, A0, A2, A3, A7, A29, A30, A31, htry, hk2], by simp [C0, C7, C11, C12, C53, C54, C55, C13, C10, C2, C3, B0, B7, B53, B54, B55, B10, B2, B3, A0, A2, A3, A7, A29, A30, A31, htry, hk2], by simp [C0, C7, C11, C12, C53, C54, C55, C13, C10, C2, C3, B0, B7, B53, B54, B55, B10, B2, B3, A0, A2, A3, A7, A29, A30, A31, htry, hk2], rfl, by omega, (by rw [htry]; exact hl3)⟩)
        · have hd2 : t.length - (i + 1) = d := by omega
          have hkn : ¬ (i : Int) + 1 + d < t.length := by omega
          rw [hd2] at hall
          repeat' (first | (refine nsf_detN hP hX (by decide +kernel) ?_) | (refine nsf_seq ?_) | (refine nsf_block ?_) | ((first | refine wpc_split _ ?_ ?_ | refine ww_split _ ?_ ?_) <;> intro hc <;> try simp at hc) | (refine wp_drawF (by kernel_rfl) ?_) | refine wk_yldW _ ?_ | refine layOwe _ (by kernel_rfl) ?_ | refine owe ?_ (fun ho => ?_) | (simp (disch := first | assumption | omega | (simp; done) | (simp; omega)) [C0, C7, C11, C12, C53, C54, C55, C13, C10, C2, C3, B0, B7, B53, B54, B55, B10, B2, B3, A0, A2, A3, A7, A29, A30, A31, hb3, hkn, -getElem?_pos, gZ, gS]))
          all_goals try (exfalso; omega)
          exact Bih (Bm - 1) _ _ (by omega) ⟨i + 1, Z2, ra, rb, by simp [C0, C7, C11, C12, C53, C54, C55, C13, C10, C2, C3, B0, B7, B53, B54, B55, B10, B2, B3, A0, A2, A3, A7, A29, A30, A31, hall], by simp [C0, C7, C11, C12, C53, C54, C55, C13, C10, C2, C3, B0, B7, B53, B54, B55, B10, B2, B3, A0, A2, A3, A7, A29, A30, A31, hall], by simp [C0, C7, C11, C12, C53, C54, C55, C13, C10, C2, C3, B0, B7, B53, B54, B55, B10, B2, B3, A0, A2, A3, A7, A29, A30, A31, hall], by simp [C0, C7, C11, C12, C53, C54, C55, C13, C10, C2, C3, B0, B7, B53, B54, B55, B10, B2, B3, A0, A2, A3, A7, A29, A30, A31, hall], by simp [C0, C7, C11, C12, C53, C54, C55, C13, C10, C2, C3, B0, B7, B53, B54, B55, B10, B2, B3, A0, A2, A3, A7, A29, A30, A31, hall], by simp [C0, C7, C11, C12, C53, C54, C55, C13, C10, C2, C3, B0, B7, B53, B54, B55, B10, B2, B3, A0, A2, A3, A7, A29, A30, A31, hall], by simp [C0, C7, C11, C12, C53, C54, C55, C13, C10, C2, C3, B0, B7, B53, B54, B55, B10, B2, B3, A0, A2, A3, A7, A29, A30, A31, hall], by simp [C0, C7, C11, C12, C53, C54, C55, C13, C10, C2, C3, B0, B7, B53, B54, B55, B10, B2, B3, A0, A2, A3, A7, A29, A30, A31, hall], hb3, by omega, (by rw [hall]; exact hl3)⟩
      · obtain rfl : i = t.length := by omega
        repeat' (first | (refine nsf_detN hP hX (by decide +kernel) ?_) | (refine nsf_seq ?_) | (refine nsf_block ?_) | ((first | refine wpc_split _ ?_ ?_ | refine ww_split _ ?_ ?_) <;> intro hc <;> try simp at hc) | (refine wp_drawF (by kernel_rfl) ?_) | refine wk_yldW _ ?_ | refine layOwe _ (by kernel_rfl) ?_ | refine owe ?_ (fun ho => ?_) | (simp (disch := first | assumption | omega | (simp; done) | (simp; omega)) [B0, B7, B53, B54, B55, B10, B2, B3, A0, A2, A3, A7, A29, A30, A31, -getElem?_pos, gZ, gS]))
        all_goals try (exfalso; omega)
        all_goals (unfold neverZ; exact Iff.rfl)
  · have hE : twiceZ t = ([], [], false, checkZ t) := by unfold twiceZ; rw [if_pos hc]
    rw [hE]
    repeat' (first | (refine nsf_detN hP hX (by decide +kernel) ?_) | (refine nsf_seq ?_) | (refine nsf_block ?_) | ((first | refine wpc_split _ ?_ ?_ | refine ww_split _ ?_ ?_) <;> intro hc <;> try simp at hc) | (refine wp_drawF (by kernel_rfl) ?_) | refine wk_yldW _ ?_ | refine layOwe _ (by kernel_rfl) ?_ | refine owe ?_ (fun ho => ?_) | (simp (disch := first | assumption | omega | (simp; done) | (simp; omega)) [hc, emptyH, Tryd.f19, -getElem?_pos, gZ, gS]))
    all_goals try (exact rfl)
end Tw
end Go.Ab
