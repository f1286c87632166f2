/- FontsGreatest: the law. -/
import Derived.Test.YtdfpmhgfmmcopaaDoorD11Of
import Derived.Test.YtdfpmhgfmmcopaaDoorF7
set_option linter.unusedVariables false
set_option linter.unusedSimpArgs false
set_option linter.unusedSectionVars false
set_option linter.deprecated false
namespace Go.Ab
open Go.Proofs
set_option maxRecDepth 100000
set_option maxHeartbeats 4000000
theorem fitTo_spec (f : Font) (l : List Int) (room : Int) : ∀ n : Nat, ∃ k : Nat, k ≤ n ∧ (fitTo f l room n).1 = k ∧ (∀ j, k < j → j ≤ n → room < wTo f l j) ∧ (fitTo f l room n).2 = wTo f l k ∧ (0 < k → wTo f l k ≤ room)
  | 0 => ⟨0, Nat.le_refl _, rfl, fun j h1 h2 => by omega, rfl, by omega⟩
  | n + 1 => by
    have hd : fitTo f l room (n + 1) = if wTo f l (n + 1) ≤ room then (((n + 1 : Nat) : Int), wTo f l (n + 1)) else fitTo f l room n := rfl
    by_cases h : wTo f l (n + 1) ≤ room
    · rw [if_pos h] at hd
      rw [hd]
      exact ⟨n + 1, Nat.le_refl _, rfl, fun j h1 h2 => by omega, rfl, fun _ => h⟩
    · rw [if_neg h] at hd
      rw [hd]
      obtain ⟨k, h1, h2, h3, h4, h5⟩ := fitTo_spec f l room n
      refine ⟨k, by omega, h2, fun j j1 j2 => ?_, h4, h5⟩
      by_cases hj : j = n + 1
      · subst hj; omega
      · exact h3 j j1 (by omega)
theorem fitS_of {f : Font} (hc : checkS f = 0) {s : List UInt8} {room : Int} (h : (runesG s).2 = 0) : fitS f s room = ((fitTo f (runesG s).1 room (runesG s).1.length).1, (fitTo f (runesG s).1 room (runesG s).1.length).2, 0) := by
  unfold fitS
  rw [if_neg (by simpa using hc), if_neg (by simpa using h)]
theorem fitS_bad {f : Font} (hc : checkS f = 0) {s : List UInt8} {room : Int} (h : ¬ (runesG s).2 = 0) : fitS f s room = (0, 0, (runesG s).2) := by
  unfold fitS
  rw [if_neg (by simpa using hc), if_pos h]
theorem C8 (f : Font) (s : List UInt8) (room : Int) (hs : f.gs.length < 1099511627776 ∧ f.ks.length < 1099511627776) (hl : s.length < 1099511627776) : Kc cfg 8 [.agg [R fl0 eG f.gs, .int .i64 f.other, R fl0 eK f.ks], .str s, .int .i64 room] (.ret (.bool true)) := by
  have hs3 : f.gs.length < 1099511627776 ∧ f.ks.length < 1099511627776 ∧ s.length < 1099511627776 := ⟨hs.1, hs.2, hl⟩
  by_cases hck : checkS f = 0
  · by_cases he : (runesG s).2 = 0
    · obtain ⟨hs4, hr⟩ := runesG_all he
      obtain ⟨hen, hpt⟩ := runes_enc' hr
      have hw := fitS_of (room := room) hck he
      have hn := runesG_len' s
      generalize hlg : (runesG s).1 = l at *
      have hle : (encAll l).length ≤ 4096 := by rw [hen]; exact hs4
      obtain ⟨k, k1, k2, k3, k4, k5⟩ := fitTo_spec f l room l.length
      rw [k2, k4] at hw
      refine outS_of_wp cfg (fn := Tryd.f8) Tryd.func8 rfl (by simp [Tryd.f8]) ?_
      simp (disch := first | assumption | omega | (simp; done) | (simp; omega)) [-getElem?_pos, List.getElem?_cons_zero, List.getElem?_cons_succ, Tryd.f8, hck, he, hw, hlg]
      repeat' (first | (refine wpc_split _ (fun hc => ?_) (fun hc => ?_) <;> (try simp at hc)) | (refine ww_split _ (fun hc => ?_) (fun hc => ?_) <;> (try simp at hc)) | (refine wp_drawF (by kernel_rfl) ?_) | (refine wk_yldW _ ?_) | (refine owe ?_ (fun ho => ?_)) | (simp (disch := first | assumption | omega | (simp; done) | (simp; omega)) [hck, he, hw, hlg, -getElem?_pos, List.getElem?_cons_zero, List.getElem?_cons_succ]))
      refine wp_loopE cfg rfl (fun f0 h0 m fr h => ∃ i : Nat, fr 2 = f0 2 ∧ fr 3 = f0 3 ∧ fr 7 = f0 7 ∧ fr 9 = f0 9 ∧ fr 10 = f0 10 ∧ fr 12 = .int .i64 i ∧ h.bs = h0.bs ∧ (i + m = l.length + 1)) (l.length + 1) _ _ ⟨0, rfl, rfl, rfl, rfl, rfl, by first | rfl | (simp; done) | (simp [R]; done) | simp [R], rfl, by first | rfl | (simp; done) | omega⟩ ?_
      rintro Am Af Ah ⟨i, A2, A3, A7, A9, A10, A12, Abs, hm⟩ Aih
      try simp at A2 A3 A7 A9 A10 Abs
      by_cases hi : i ≤ l.length
      · have htk : (l.take i).length = i := by simp; omega
        have hp2 : (l.take i).all point = true := by
          rw [List.all_eq_true] at hpt ⊢; exact fun x hx => hpt x (List.mem_of_mem_take hx)
        have hl2 : (encAll (l.take i)).length ≤ 4096 := by have := encAll_take_le l i; omega
        have hwt2 : wTo f (l.take i) i = wTo f l i := wTo_take (Nat.le_refl _)
        have hwz : wTo f l 0 = 0 := rfl
        have hwz2 : wTo f [] 0 = 0 := rfl
        have hk3 : k < i → room < wTo f l i := fun h => k3 i h hi
        have hki : i = k → wTo f l i = wTo f l k := fun h => by rw [h]
        have hk0 : k = 0 → wTo f l k = 0 := fun h => by rw [h]; rfl
        repeat' (first | (refine wpc_split _ (fun hc => ?_) (fun hc => ?_) <;> (try simp at hc)) | (refine ww_split _ (fun hc => ?_) (fun hc => ?_) <;> (try simp at hc)) | (refine wp_drawF (by kernel_rfl) ?_) | (refine wk_yldW _ ?_) | (refine owe ?_ (fun ho => ?_)) | (simp (disch := first | assumption | omega | (simp; done) | (simp; omega)) [A2, A3, A7, A9, A10, A12, Abs, hwt2, hp2, hl2, -getElem?_pos, List.getElem?_cons_zero, List.getElem?_cons_succ]))
        all_goals first
          | (exfalso; omega)
          | exact Aih (Am - 1) _ _ (by omega) ⟨i + 1, by simp [A2, A3, A7, A9, A10, A12, Abs], by simp [A2, A3, A7, A9, A10, A12, Abs], by simp [A2, A3, A7, A9, A10, A12, Abs], by simp [A2, A3, A7, A9, A10, A12, Abs], by simp [A2, A3, A7, A9, A10, A12, Abs], by simp [A2, A3, A7, A9, A10, A12, Abs], by simp [A2, A3, A7, A9, A10, A12, Abs], by omega⟩
          | (rename_i q1 q2; exfalso; omega)
          | trace_state
      · repeat' (first | (refine wpc_split _ (fun hc => ?_) (fun hc => ?_) <;> (try simp at hc)) | (refine ww_split _ (fun hc => ?_) (fun hc => ?_) <;> (try simp at hc)) | (refine wp_drawF (by kernel_rfl) ?_) | (refine wk_yldW _ ?_) | (refine owe ?_ (fun ho => ?_)) | (simp (disch := first | assumption | omega | (simp; done) | (simp; omega)) [A2, A3, A7, A9, A10, A12, Abs, -getElem?_pos, List.getElem?_cons_zero, List.getElem?_cons_succ]))
    · have hw := fitS_bad (room := room) hck he
      refine outS_of_wp cfg (fn := Tryd.f8) Tryd.func8 rfl (by simp [Tryd.f8]) ?_
      simp (disch := first | assumption | omega | (simp; done) | (simp; omega)) [-getElem?_pos, List.getElem?_cons_zero, List.getElem?_cons_succ, Tryd.f8, hck, he, hw]
      repeat' (first | (refine wpc_split _ (fun hc => ?_) (fun hc => ?_) <;> (try simp at hc)) | (refine ww_split _ (fun hc => ?_) (fun hc => ?_) <;> (try simp at hc)) | (refine wp_drawF (by kernel_rfl) ?_) | (refine wk_yldW _ ?_) | (refine owe ?_ (fun ho => ?_)) | (simp (disch := first | assumption | omega | (simp; done) | (simp; omega)) [hck, he, hw, -getElem?_pos, List.getElem?_cons_zero, List.getElem?_cons_succ]))
  · skip
    refine outS_of_wp cfg (fn := Tryd.f8) Tryd.func8 rfl (by simp [Tryd.f8]) ?_
    simp (disch := first | assumption | omega | (simp; done) | (simp; omega)) [-getElem?_pos, List.getElem?_cons_zero, List.getElem?_cons_succ, Tryd.f8, hck]
    repeat' (first | (refine wpc_split _ (fun hc => ?_) (fun hc => ?_) <;> (try simp at hc)) | (refine ww_split _ (fun hc => ?_) (fun hc => ?_) <;> (try simp at hc)) | (refine wp_drawF (by kernel_rfl) ?_) | (refine wk_yldW _ ?_) | (refine owe ?_ (fun ho => ?_)) | (simp (disch := first | assumption | omega | (simp; done) | (simp; omega)) [hck, -getElem?_pos, List.getElem?_cons_zero, List.getElem?_cons_succ]))
@[simp] theorem S8 (f : Font) (s : List UInt8) (room : Int) (hs : f.gs.length < 1099511627776 ∧ f.ks.length < 1099511627776) (hl : s.length < 1099511627776) (q1 q2 : Fl) (hh : Heap) : Ci cfg (.func (.func 8) [] []) [.agg [R  q1 eG f.gs, .int .i64 f.other, R  q2 eK f.ks], .str s, .int .i64 room] hh = some (.ret (.bool true), hh) :=
  Ci_K cfg rfl rfl (by simp) (by simp) (C8 f s room hs hl)
end Go.Ab
