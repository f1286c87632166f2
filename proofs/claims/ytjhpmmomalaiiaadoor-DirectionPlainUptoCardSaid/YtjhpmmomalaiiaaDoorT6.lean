import Derived.Test.YtjhpmmomalaiiaaDoorT2
import Derived.Test.YtjhpmmomalaiiaaDoorT5
set_option linter.unusedVariables false
set_option linter.unusedSimpArgs false
set_option linter.unusedSectionVars false
set_option linter.deprecated false
namespace Go.Ab
open Go.Proofs
set_option maxRecDepth 100000
set_option maxHeartbeats 1000000
attribute [local simp] typeAssertV
@[simp] theorem D38_no (a b : Nat) (h : Heap) : Di cfg (.func (.func 38) [] [.ptr a 0, .ptr b 0]) [] h .no = some (h, .no) := by
  refine Di_of_wp cfg (fn := Tryd.f38) Tryd.func38 rfl (by simp [Tryd.f38]) ?_
  simp (disch := first | assumption | omega | (simp; done) | (simp; omega)) [-getElem?_pos, List.getElem?_cons_zero, List.getElem?_cons_succ, Tryd.f38]
@[simp] theorem D38_pan (x y : V) (r : List Blk) (ts : List (Option Nat)) :
    Di cfg (.func (.func 38) [] [.ptr 0 0, .ptr 1 0]) [] ⟨.cells [x] :: .cells [y] :: r, ts⟩ (.pan (.iface 64 (.agg []))) = some (⟨.cells [.row true true [] 0 none] :: .cells [.int .i64 90] :: (r ++ [.cells []]), ts⟩, .got (.iface 64 (.agg []))) := by
  refine Di_of_wp cfg (fn := Tryd.f38) Tryd.func38 rfl (by simp [Tryd.f38]) ?_
  have hlst : ∀ b : Blk, (r ++ [b])[r.length]? = some b := fun b => by simp
  simp (disch := first | assumption | omega | (simp; done) | (simp; omega)) [-getElem?_pos, List.getElem?_cons_zero, List.getElem?_cons_succ, Tryd.f38, hlst]
theorem dec_len {s : List UInt8} (h : ¬ (dec s).2 = 0) : point (dec s).1 = true ∧ (dec s).2 = (encR (dec s).1).length ∧ encR (dec s).1 = s.take (dec s).2.toNat := by
  revert h
  unfold dec
  simp only
  split
  · simp
  · split
    · rename_i h1 h2
      intro _
      refine ⟨h2.2.1, ?_, h2.2.2⟩
      show ((longR (nth s 0).toNat).1.toNat : Int) = _
      rw [h2.2.2]; simp; omega
    · simp
theorem decG_spec (s : List UInt8) : ((decG s).1 = 65533 ∧ (decG s).2 < 2 ↔ (dec s).2 = 0) ∧ 0 ≤ (decG s).1 ∧ (decG s).1 ≤ 1114111 := by
  unfold decG
  by_cases h : (dec s).2 = 0
  · simp [h]
  · rw [if_neg h]
    obtain ⟨h1, h2, _⟩ := dec_len h
    rw [point_t] at h1
    refine ⟨⟨fun ⟨e1, e2⟩ => ?_, fun e => absurd e h⟩, h1.1, h1.2.1⟩
    rw [h2, e1] at e2
    simp [encR] at e2
theorem decG_of {s : List UInt8} (h : ¬ (dec s).2 = 0) : decG s = dec s := by unfold decG; rw [if_neg h]
theorem C20 (s : List UInt8) (hs : s.length < 1099511627776) : Kc cfg 20 [.str s] (.ret (.tuple [R fl0 eI (runesG s).1, .int .i64 (runesG s).2])) := by
  refine outS_of_wp cfg (fn := Tryd.f20) Tryd.func20 rfl (by simp [Tryd.f20]) ?_
  simp (disch := first | assumption | omega | (simp; done) | (simp; omega)) [-getElem?_pos, List.getElem?_cons_zero, List.getElem?_cons_succ, Tryd.f20]
  repeat' (first | (refine wpc_split _ (fun hc => ?_) (fun hc => ?_) <;> (try simp at hc)) | (refine ww_split _ (fun hc => ?_) (fun hc => ?_) <;> (try simp at hc)) | (refine wp_drawF (by kernel_rfl) ?_) | (refine wk_yldW _ ?_) | (refine layOwe _ (by kernel_rfl) ?_) | (refine owe ?_ (fun ho => ?_)) | (simp (disch := first | assumption | omega | (simp; done) | (simp; omega)) [Tryd.f40, Tryd.f39, Tryd.f49, Tryd.f50, -getElem?_pos, List.getElem?_cons_zero, List.getElem?_cons_succ]))
  · rw [runesG_long (by omega)]; exact ⟨rfl, rfl⟩
  · refine wp_loopE cfg rfl (fun f0 h0 m f h => ∃ (t : List UInt8) (out : List Int) (fl : Fl), f 0 = f0 0 ∧ f 1 = f0 1 ∧ h.bs = (h0.bs.set 2 (.cells [.str t])).set 3 (.cells [R fl eI out]) ∧ App h.ts 1 fl ∧ m = t.length ∧ out.length + t.length ≤ s.length ∧ runes s = (runes t).map (out ++ ·)) s.length _ _ ⟨s, [], (true, true, none), rfl, rfl, by simp [R], App.nil _ _ _, rfl, by simp, by simp⟩ ?_
    rintro m f h ⟨t, out, fl, h0, h1, hb, ha, rfl, hl, hr⟩ ih
    have hd := dec_bound t
    simp at h0 h1 hb
    by_cases hn : t = []
    · subst hn
      repeat' (first | (refine wpc_split _ (fun hc => ?_) (fun hc => ?_) <;> (try simp at hc)) | (refine ww_split _ (fun hc => ?_) (fun hc => ?_) <;> (try simp at hc)) | (refine wp_drawF (by kernel_rfl) ?_) | (refine wk_yldW _ ?_) | (refine layOwe _ (by kernel_rfl) ?_) | (refine owe ?_ (fun ho => ?_)) | (simp (disch := first | assumption | omega | (simp; done) | (simp; omega)) [h0, h1, hb, -getElem?_pos, List.getElem?_cons_zero, List.getElem?_cons_succ]))
      rw [runesG_some (by omega) (by rw [hr, runes_nil]; simp; rfl)]; exact ⟨rfl, rfl⟩
    have hp : 0 < t.length := List.length_pos_iff.2 hn
    by_cases hz : (dec t).2 = 0
    · have hg : decG t = (65533, 1) := by unfold decG; rw [if_pos hz]
      repeat' (first | (refine wpc_split _ (fun hc => ?_) (fun hc => ?_) <;> (try simp at hc)) | (refine ww_split _ (fun hc => ?_) (fun hc => ?_) <;> (try simp at hc)) | (refine wp_drawF (by kernel_rfl) ?_) | (refine wk_yldW _ ?_) | (refine layOwe _ (by kernel_rfl) ?_) | (refine owe ?_ (fun ho => ?_)) | (simp (disch := first | assumption | omega | (simp; done) | (simp; omega)) [h0, h1, hb, hg, -getElem?_pos, List.getElem?_cons_zero, List.getElem?_cons_succ]))
      rw [runesG_none (by omega) (by rw [hr, runes_bad hp hz]; rfl)]; exact ⟨rfl, rfl⟩
    · have hg := decG_spec t
      rw [decG_of hz] at hg
      have hdg := decG_of hz
      repeat' (first | (refine wpc_split _ (fun hc => ?_) (fun hc => ?_) <;> (try simp at hc)) | (refine ww_split _ (fun hc => ?_) (fun hc => ?_) <;> (try simp at hc)) | (refine wp_drawF (by kernel_rfl) ?_) | (refine wk_yldW _ ?_) | (refine layOwe _ (by kernel_rfl) ?_) | (refine owe ?_ (fun ho => ?_)) | (simp (disch := first | assumption | omega | (simp; done) | (simp; omega)) [h0, h1, hb, hdg, fold_I1, -getElem?_pos, List.getElem?_cons_zero, List.getElem?_cons_succ]))
      all_goals
        refine ih (t.length - (dec t).2.toNat) _ _ (by omega) ⟨t.drop (dec t).2.toNat, out ++ [(dec t).1], _, by simp [h0], by simp [h1], by simp, App.new _ _ _, by simp, by simp; omega, ?_⟩
        rw [hr, runes_step hp hz]
        simp [Function.comp_def]
@[simp] theorem S20 (s : List UInt8) (hs : s.length < 1099511627776) (hh : Heap) : Ci cfg (.func (.func 20) [] []) [.str s] hh = some (.ret (.tuple [R fl0 eI (runesG s).1, .int .i64 (runesG s).2]), hh) :=
  Ci_K cfg rfl rfl (by simp) (by simp) (C20 s hs)
end Go.Ab
