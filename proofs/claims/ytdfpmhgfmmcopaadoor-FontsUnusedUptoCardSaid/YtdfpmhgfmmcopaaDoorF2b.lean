/- Layer 11 (fonts): the reference's Width and Fit. -/
import Derived.Test.YtdfpmhgfmmcopaaDoorF2
set_option linter.unusedVariables false
set_option linter.unusedSimpArgs false
set_option linter.unusedSectionVars false
set_option linter.deprecated false
namespace Go.Ab
open Go.Proofs
set_option maxRecDepth 100000
set_option maxHeartbeats 4000000
def widthS (f : Font) (s : List UInt8) : Int × Int := if checkS f ≠ 0 then (0, checkS f) else if (runesG s).2 ≠ 0 then (0, (runesG s).2) else (wTo f (runesG s).1 (runesG s).1.length, 0)
theorem runesG_len' (s : List UInt8) : (runesG s).1.length ≤ 4096 := by
  unfold runesG
  split
  · simp
  · cases hr : runes s with
    | none => simp
    | some l => have := runes_len _ _ _ (Nat.le_refl _) hr; simp only; omega
theorem C12 (f : Font) (s : List UInt8) (hs : f.gs.length < 1099511627776 ∧ f.ks.length < 1099511627776) (hl : s.length < 1099511627776) : Kc cfg 12 [.agg [R fl0 eG f.gs, .int .i64 f.other, R fl0 eK f.ks], .str s] (.ret (.tuple [.int .i64 (widthS f s).1, .int .i64 (widthS f s).2])) := by
  have hn := runesG_len' s
  refine outS_of_wp cfg (fn := Tryd.f12) Tryd.func12 rfl (by simp [Tryd.f12]) ?_
  simp (disch := first | assumption | omega | (simp; done) | (simp; omega)) [-getElem?_pos, List.getElem?_cons_zero, List.getElem?_cons_succ, Tryd.f12]
  repeat' (first | (refine wpc_split _ (fun hc => ?_) (fun hc => ?_) <;> (try simp at hc)) | (refine ww_split _ (fun hc => ?_) (fun hc => ?_) <;> (try simp at hc)) | (refine wp_drawF (by kernel_rfl) ?_) | (refine wk_yldW _ ?_) | (refine owe ?_ (fun ho => ?_)) | (simp (disch := first | assumption | omega | (simp; done) | (simp; omega)) [-getElem?_pos, List.getElem?_cons_zero, List.getElem?_cons_succ]))
  all_goals (unfold widthS; simp [*])
@[simp] theorem S12 (f : Font) (s : List UInt8) (hs : f.gs.length < 1099511627776 ∧ f.ks.length < 1099511627776) (hl : s.length < 1099511627776) (q1 q2 : Fl) (hh : Heap) : Ci cfg (.func (.func 12) [] []) [.agg [R  q1 eG f.gs, .int .i64 f.other, R  q2 eK f.ks], .str s] hh = some (.ret (.tuple [.int .i64 (widthS f s).1, .int .i64 (widthS f s).2]), hh) :=
  Ci_K cfg rfl rfl (by simp) (by simp) (C12 f s hs hl)
def fitTo (f : Font) (l : List Int) (room : Int) : Nat → Int × Int
  | 0 => (0, 0)
  | n + 1 => if wTo f l (n + 1) ≤ room then (((n + 1 : Nat) : Int), wTo f l (n + 1)) else fitTo f l room n
def fitS (f : Font) (s : List UInt8) (room : Int) : Int × Int × Int := if checkS f ≠ 0 then (0, 0, checkS f) else if (runesG s).2 ≠ 0 then (0, 0, (runesG s).2) else ((fitTo f (runesG s).1 room (runesG s).1.length).1, (fitTo f (runesG s).1 room (runesG s).1.length).2, 0)
theorem C16 (f : Font) (s : List UInt8) (room : Int) (hs : f.gs.length < 1099511627776 ∧ f.ks.length < 1099511627776) (hl : s.length < 1099511627776) : Kc cfg 16 [.agg [R fl0 eG f.gs, .int .i64 f.other, R fl0 eK f.ks], .str s, .int .i64 room] (.ret (.tuple [.int .i64 (fitS f s room).1, .int .i64 (fitS f s room).2.1, .int .i64 (fitS f s room).2.2])) := by
  have hn := runesG_len' s
  by_cases hc0 : checkS f = 0
  · by_cases he : (runesG s).2 = 0
    · have hF : fitS f s room = ((fitTo f (runesG s).1 room (runesG s).1.length).1, (fitTo f (runesG s).1 room (runesG s).1.length).2, 0) := by unfold fitS; rw [if_neg (by simpa using hc0), if_neg (by simpa using he)]
      rw [hF]
      generalize hlg : (runesG s).1 = l at *
      refine outS_of_wp cfg (fn := Tryd.f16) Tryd.func16 rfl (by simp [Tryd.f16]) ?_
      simp (disch := first | assumption | omega | (simp; done) | (simp; omega)) [-getElem?_pos, List.getElem?_cons_zero, List.getElem?_cons_succ, Tryd.f16, he, hc0, hlg]
      repeat' (first | (refine wpc_split _ (fun hc => ?_) (fun hc => ?_) <;> (try simp at hc)) | (refine ww_split _ (fun hc => ?_) (fun hc => ?_) <;> (try simp at hc)) | (refine wp_drawF (by kernel_rfl) ?_) | (refine wk_yldW _ ?_) | (refine owe ?_ (fun ho => ?_)) | (simp (disch := first | assumption | omega | (simp; done) | (simp; omega)) [he, hc0, hlg, -getElem?_pos, List.getElem?_cons_zero, List.getElem?_cons_succ]))
      refine wp_loopE cfg rfl (fun f0 h0 m fr h => ∃ n : Nat, ∃ out : Bool, fr 2 = f0 2 ∧ fr 3 = f0 3 ∧ fr 10 = f0 10 ∧ fr 12 = .int .i64 (if out then (-1 : Int) else n) ∧ h.bs = h0.bs ∧ (m = (if out then 0 else n + 1)) ∧ (n ≤ l.length) ∧ (out = true → n = 0) ∧ (fitTo f l room l.length = fitTo f l room n)) (l.length + 1) _ _ ⟨l.length, false, rfl, rfl, rfl, by simp, rfl, by simp, by first | rfl | (simp; done) | omega, by simp, by rfl⟩ ?_
      rintro Am Af Ah ⟨n, out, A2, A3, A10, A12, Abs, hm, hn2, ho, hfit⟩ Aih
      try simp at A2 A3 A10 Abs
      cases out with
      | true =>
        have hn0 := ho rfl
        subst hn0
        simp only [if_true] at A12
        repeat' (first | (refine wpc_split _ (fun hc => ?_) (fun hc => ?_) <;> (try simp at hc)) | (refine ww_split _ (fun hc => ?_) (fun hc => ?_) <;> (try simp at hc)) | (refine wp_drawF (by kernel_rfl) ?_) | (refine wk_yldW _ ?_) | (refine owe ?_ (fun ho => ?_)) | (simp (disch := first | assumption | omega | (simp; done) | (simp; omega)) [A2, A3, A10, A12, Abs, -getElem?_pos, List.getElem?_cons_zero, List.getElem?_cons_succ]))
        rw [hfit]
        exact ⟨rfl, rfl⟩
      | false =>
        simp only [Bool.false_eq_true, if_false] at A12 hm
        have hb := wTo_bound hc0 l n
        have hwt2 : wTo f (l.take n) n = wTo f l n := wTo_take (Nat.le_refl _)
        have hwt3 : wTo f [] 0 = 0 := rfl
        have hwt4 : wTo f l 0 = 0 := rfl
        by_cases hr : wTo f l n ≤ room
        · have hfn : fitTo f l room n = ((n : Int), wTo f l n) := by
            cases n with
            | zero => rfl
            | succ n => show (if _ then _ else _) = _; rw [if_pos hr]
          rw [hfn] at hfit
          cases hnz : n with
          | zero =>
            subst hnz
            rw [hwt4] at hr hfit
            repeat' (first | (refine wpc_split _ (fun hc => ?_) (fun hc => ?_) <;> (try simp at hc)) | (refine ww_split _ (fun hc => ?_) (fun hc => ?_) <;> (try simp at hc)) | (refine wp_drawF (by kernel_rfl) ?_) | (refine wk_yldW _ ?_) | (refine owe ?_ (fun ho => ?_)) | (simp (disch := first | assumption | omega | (simp; done) | (simp; omega)) [A2, A3, A10, A12, Abs, hc0, hwt3, hfit, -getElem?_pos, List.getElem?_cons_zero, List.getElem?_cons_succ]))
          | succ k =>
            subst hnz
            repeat' (first | (refine wpc_split _ (fun hc => ?_) (fun hc => ?_) <;> (try simp at hc)) | (refine ww_split _ (fun hc => ?_) (fun hc => ?_) <;> (try simp at hc)) | (refine wp_drawF (by kernel_rfl) ?_) | (refine wk_yldW _ ?_) | (refine owe ?_ (fun ho => ?_)) | (simp (disch := first | assumption | omega | (simp; done) | (simp; omega)) [A2, A3, A10, A12, Abs, hc0, hwt2, hfit, -getElem?_pos, List.getElem?_cons_zero, List.getElem?_cons_succ]))
        · cases hnn : n with
          | zero =>
            subst hnn
            rw [hwt4] at hr
            repeat' (first | (refine wpc_split _ (fun hc => ?_) (fun hc => ?_) <;> (try simp at hc)) | (refine ww_split _ (fun hc => ?_) (fun hc => ?_) <;> (try simp at hc)) | (refine wp_drawF (by kernel_rfl) ?_) | (refine wk_yldW _ ?_) | (refine owe ?_ (fun ho => ?_)) | (simp (disch := first | assumption | omega | (simp; done) | (simp; omega)) [A2, A3, A10, A12, Abs, hc0, hwt2, hwt3, -getElem?_pos, List.getElem?_cons_zero, List.getElem?_cons_succ]))
            exact Aih 0 _ _ (by omega) ⟨0, true, by simp [A2], by simp [A3], by simp [A10], by simp, by simp [Abs], by simp, by omega, by simp, hfit⟩
          | succ k =>
            subst hnn
            have hfn : fitTo f l room (k + 1) = fitTo f l room k := by show (if _ then _ else _) = _; rw [if_neg hr]
            repeat' (first | (refine wpc_split _ (fun hc => ?_) (fun hc => ?_) <;> (try simp at hc)) | (refine ww_split _ (fun hc => ?_) (fun hc => ?_) <;> (try simp at hc)) | (refine wp_drawF (by kernel_rfl) ?_) | (refine wk_yldW _ ?_) | (refine owe ?_ (fun ho => ?_)) | (simp (disch := first | assumption | omega | (simp; done) | (simp; omega)) [A2, A3, A10, A12, Abs, hc0, hwt2, -getElem?_pos, List.getElem?_cons_zero, List.getElem?_cons_succ]))
            exact Aih (k + 1) _ _ (by omega) ⟨k, false, by simp [A2], by simp [A3], by simp [A10], by simp; try omega, by simp [Abs], by simp, by omega, by simp, by rw [hfit, hfn]⟩
    · have hF : fitS f s room = (0, 0, (runesG s).2) := by unfold fitS; rw [if_neg (by simpa using hc0), if_pos he]
      rw [hF]
      refine outS_of_wp cfg (fn := Tryd.f16) Tryd.func16 rfl (by simp [Tryd.f16]) ?_
      simp (disch := first | assumption | omega | (simp; done) | (simp; omega)) [-getElem?_pos, List.getElem?_cons_zero, List.getElem?_cons_succ, Tryd.f16, he, hc0]
      repeat' (first | (refine wpc_split _ (fun hc => ?_) (fun hc => ?_) <;> (try simp at hc)) | (refine ww_split _ (fun hc => ?_) (fun hc => ?_) <;> (try simp at hc)) | (refine wp_drawF (by kernel_rfl) ?_) | (refine wk_yldW _ ?_) | (refine owe ?_ (fun ho => ?_)) | (simp (disch := first | assumption | omega | (simp; done) | (simp; omega)) [he, hc0, -getElem?_pos, List.getElem?_cons_zero, List.getElem?_cons_succ]))
  · have hF : fitS f s room = (0, 0, checkS f) := by unfold fitS; rw [if_pos hc0]
    rw [hF]
    refine outS_of_wp cfg (fn := Tryd.f16) Tryd.func16 rfl (by simp [Tryd.f16]) ?_
    simp (disch := first | assumption | omega | (simp; done) | (simp; omega)) [-getElem?_pos, List.getElem?_cons_zero, List.getElem?_cons_succ, Tryd.f16, hc0]
    repeat' (first | (refine wpc_split _ (fun hc => ?_) (fun hc => ?_) <;> (try simp at hc)) | (refine ww_split _ (fun hc => ?_) (fun hc => ?_) <;> (try simp at hc)) | (refine wp_drawF (by kernel_rfl) ?_) | (refine wk_yldW _ ?_) | (refine owe ?_ (fun ho => ?_)) | (simp (disch := first | assumption | omega | (simp; done) | (simp; omega)) [hc0, -getElem?_pos, List.getElem?_cons_zero, List.getElem?_cons_succ]))
@[simp] theorem S16 (f : Font) (s : List UInt8) (room : Int) (hs : f.gs.length < 1099511627776 ∧ f.ks.length < 1099511627776) (hl : s.length < 1099511627776) (q1 q2 : Fl) (hh : Heap) : Ci cfg (.func (.func 16) [] []) [.agg [R  q1 eG f.gs, .int .i64 f.other, R  q2 eK f.ks], .str s, .int .i64 room] hh = some (.ret (.tuple [.int .i64 (fitS f s room).1, .int .i64 (fitS f s room).2.1, .int .i64 (fitS f s room).2.2]), hh) :=
  Ci_K cfg rfl rfl (by simp) (by simp) (C16 f s room hs hl)
end Go.Ab
