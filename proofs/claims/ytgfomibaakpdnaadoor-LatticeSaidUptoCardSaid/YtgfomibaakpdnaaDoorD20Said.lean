/- LatticeSaid: the law. -/
import Derived.Test.YtgfomibaakpdnaaDoorD20
set_option linter.unusedVariables false
set_option linter.unusedSimpArgs false
set_option linter.unusedSectionVars false
set_option linter.deprecated false
namespace Go.Ab
open Go.Proofs
set_option maxRecDepth 100000
set_option maxHeartbeats 4000000
theorem C7 (n : Int) (l : List Edge) (picks : List Int) (ws : List (List UInt8)) (hs : l.length < 4294967296 ∧ picks.length < 4294967296) (hs3 : ws.length < 1099511627776) (ht : ∀ x ∈ l, x.text.length < 1099511627776) (htw : ∀ x ∈ ws, x.length < 1099511627776) (hp : ∀ x ∈ picks, 0 ≤ x ∧ x ≤ 255) : Kc cfg 7 [.int .i64 n, R fl0 eE l, R fl0 eU picks, R fl0 eS ws] (.ret (.bool true)) := by
  have hs1 : l.length < 1099511627776 := by omega
  cases hr : rightE n l with
  | false =>
    refine outS_of_wp cfg (fn := Tryd.f7) Tryd.func7 rfl (by simp [Tryd.f7]) ?_
    simp (disch := first | assumption | omega | (simp; done) | (simp; omega)) [-getElem?_pos, List.getElem?_cons_zero, List.getElem?_cons_succ, Tryd.f7, hr]
    repeat' (first | (refine wpc_split _ (fun hc => ?_) (fun hc => ?_) <;> (try simp at hc)) | (refine ww_split _ (fun hc => ?_) (fun hc => ?_) <;> (try simp at hc)) | (refine wp_drawF (by kernel_rfl) ?_) | (refine wk_yldW _ ?_) | (refine layOwe _ (by kernel_rfl) ?_) | (refine owe ?_ (fun ho => ?_)) | (simp (disch := first | assumption | omega | (simp; done) | (simp; omega)) [hr, -getElem?_pos, List.getElem?_cons_zero, List.getElem?_cons_succ]))
  | true =>
    cases hfw : fewW ws with
    | false =>
      refine outS_of_wp cfg (fn := Tryd.f7) Tryd.func7 rfl (by simp [Tryd.f7]) ?_
      simp (disch := first | assumption | omega | (simp; done) | (simp; omega)) [-getElem?_pos, List.getElem?_cons_zero, List.getElem?_cons_succ, Tryd.f7, hr, hfw]
      repeat' (first | (refine wpc_split _ (fun hc => ?_) (fun hc => ?_) <;> (try simp at hc)) | (refine ww_split _ (fun hc => ?_) (fun hc => ?_) <;> (try simp at hc)) | (refine wp_drawF (by kernel_rfl) ?_) | (refine wk_yldW _ ?_) | (refine layOwe _ (by kernel_rfl) ?_) | (refine owe ?_ (fun ho => ?_)) | (simp (disch := first | assumption | omega | (simp; done) | (simp; omega)) [hr, hfw, -getElem?_pos, List.getElem?_cons_zero, List.getElem?_cons_succ]))
    | true =>
      obtain ⟨hl30, hck⟩ := rightE_ok hr
      have hn := (checkE_ok hck).1
      have hq := walkR_path (n := n.toNat) (l := l) (p := picks) (v := 0)
      have hql := walkR_len (l := l) (p := picks) (v := 0)
      have hni : ((n.toNat : Nat) : Int) = n := by omega
      rw [hni] at hq
      have hZ : ∀ ws, saysS n l ws = (saidE n l ws, 0) := fun ws => by unfold saysS; rw [if_pos hck]
      have hbo : (bestS n l).2.2.2 = 0 ∧ (saidE n l ws = true → (bestS n l).2.2.1 = true) := by
        by_cases hd : DE n l 0 ≤ sumE l
        · rw [best_yes hck hd]; exact ⟨rfl, fun _ => rfl⟩
        · rw [best_no hck hd]; exact ⟨rfl, fun h => absurd (said_some hck h) hd⟩
      obtain ⟨hb0, hb1⟩ := hbo
      generalize hW : walkR l picks 0 = W at *
      by_cases hw : W.2 = n
      · have hpw := hq hw
        have hall := path_all hpw
        have hsd := said_own hck hpw
        generalize hWp : W.1 = P at *
        cases hsa : saidE n l ws with
        | false =>
          refine outS_of_wp cfg (fn := Tryd.f7) Tryd.func7 rfl (by simp [Tryd.f7]) ?_
          simp (disch := first | assumption | omega | (simp; done) | (simp; omega)) [-getElem?_pos, List.getElem?_cons_zero, List.getElem?_cons_succ, Tryd.f7, hr, hfw, hb0, hZ, hsa]
          repeat' (first | (refine wpc_split _ (fun hc => ?_) (fun hc => ?_) <;> (try simp at hc)) | (refine ww_split _ (fun hc => ?_) (fun hc => ?_) <;> (try simp at hc)) | (refine wp_drawF (by kernel_rfl) ?_) | (refine wk_yldW _ ?_) | (refine layOwe _ (by kernel_rfl) ?_) | (refine owe ?_ (fun ho => ?_)) | (simp (disch := first | assumption | omega | (simp; done) | (simp; omega)) [hr, hfw, hb0, hZ, hsa, hW, hw, hWp, -getElem?_pos, List.getElem?_cons_zero, List.getElem?_cons_succ]))
          refine wp_loopE cfg rfl (fun f0 h0 m fr h => ∃ i : Nat, ∃ fl : Fl, fr 0 = f0 0 ∧ fr 1 = f0 1 ∧ fr 70 = f0 70 ∧ fr 71 = f0 71 ∧ fr 17 = R fl eS ((P.take i).map fun i => (nth l i.toNat).text) ∧ fr 72 = .int .i64 i ∧ (App h.ts 1 fl) ∧ (i + m = P.length)) (P.length) _ _ ⟨0, (true, true, none), rfl, rfl, rfl, rfl, by first | rfl | (simp; done) | (simp [R]; done) | simp [R], by first | rfl | (simp; done) | (simp [R]; done) | simp [R], App.nil _ _ _, by first | rfl | (simp; done) | omega⟩ ?_
          rintro Am Af Ah ⟨i, fl, A0, A1, A70, A71, A17, A72, hap, hm⟩ Aih
          try simp at A0 A1 A70 A71
          by_cases hi : i < P.length
          · have h3 := hall _ (nth_mem hi)
            have htk : (P.take (i + 1)).map (fun i => (nth l i.toNat).text) = (P.take i).map (fun i => (nth l i.toNat).text) ++ [(nth l (nth P i).toNat).text] := by rw [nth_take hi]; simp
            have h4 : (nth P i).toNat < l.length := by omega
            have h5 : ((P.take i).map (fun i => (nth l i.toNat).text)).length ≤ i := by simp; omega
            repeat' (first | (refine wpc_split _ (fun hc => ?_) (fun hc => ?_) <;> (try simp at hc)) | (refine ww_split _ (fun hc => ?_) (fun hc => ?_) <;> (try simp at hc)) | (refine wp_drawF (by kernel_rfl) ?_) | (refine wk_yldW _ ?_) | (refine layOwe _ (by kernel_rfl) ?_) | (refine owe ?_ (fun ho => ?_)) | (simp (disch := first | assumption | omega | (simp; done) | (simp; omega)) [A0, A1, A70, A71, A17, A72, eI, eE, fold_S1, -getElem?_pos, List.getElem?_cons_zero, List.getElem?_cons_succ]))
            exact Aih (Am - 1) _ _ (by omega) ⟨i + 1, _, by simp [A0, A1, A70, A71, A17, A72, htk], by simp [A0, A1, A70, A71, A17, A72, htk], by simp [A0, A1, A70, A71, A17, A72, htk], by simp [A0, A1, A70, A71, A17, A72, htk], by simp [A0, A1, A70, A71, A17, A72, htk], by simp [A0, A1, A70, A71, A17, A72, htk], App.new _ _ _, by omega⟩
          · have h1 : P.take i = P := List.take_of_length_le (by omega)
            rw [h1] at A17
            have h2 : (P.map fun i => (nth l i.toNat).text).length < 1099511627776 := by simp; omega
            repeat' (first | (refine wpc_split _ (fun hc => ?_) (fun hc => ?_) <;> (try simp at hc)) | (refine ww_split _ (fun hc => ?_) (fun hc => ?_) <;> (try simp at hc)) | (refine wp_drawF (by kernel_rfl) ?_) | (refine wk_yldW _ ?_) | (refine layOwe _ (by kernel_rfl) ?_) | (refine owe ?_ (fun ho => ?_)) | (simp (disch := first | assumption | omega | (simp; done) | (simp; omega)) [A0, A1, A70, A71, A17, A72, hZ, hsd, -getElem?_pos, List.getElem?_cons_zero, List.getElem?_cons_succ]))
        | true =>
          have hb2 := hb1 hsa
          refine outS_of_wp cfg (fn := Tryd.f7) Tryd.func7 rfl (by simp [Tryd.f7]) ?_
          simp (disch := first | assumption | omega | (simp; done) | (simp; omega)) [-getElem?_pos, List.getElem?_cons_zero, List.getElem?_cons_succ, Tryd.f7, hr, hfw, hb0, hZ, hsa, hb2]
          repeat' (first | (refine wpc_split _ (fun hc => ?_) (fun hc => ?_) <;> (try simp at hc)) | (refine ww_split _ (fun hc => ?_) (fun hc => ?_) <;> (try simp at hc)) | (refine wp_drawF (by kernel_rfl) ?_) | (refine wk_yldW _ ?_) | (refine layOwe _ (by kernel_rfl) ?_) | (refine owe ?_ (fun ho => ?_)) | (simp (disch := first | assumption | omega | (simp; done) | (simp; omega)) [hr, hfw, hb0, hZ, hsa, hb2, hW, hw, hWp, -getElem?_pos, List.getElem?_cons_zero, List.getElem?_cons_succ]))
          refine wp_loopE cfg rfl (fun f0 h0 m fr h => ∃ i : Nat, ∃ fl : Fl, fr 0 = f0 0 ∧ fr 1 = f0 1 ∧ fr 70 = f0 70 ∧ fr 71 = f0 71 ∧ fr 17 = R fl eS ((P.take i).map fun i => (nth l i.toNat).text) ∧ fr 72 = .int .i64 i ∧ (App h.ts 1 fl) ∧ (i + m = P.length)) (P.length) _ _ ⟨0, (true, true, none), rfl, rfl, rfl, rfl, by first | rfl | (simp; done) | (simp [R]; done) | simp [R], by first | rfl | (simp; done) | (simp [R]; done) | simp [R], App.nil _ _ _, by first | rfl | (simp; done) | omega⟩ ?_
          rintro Am Af Ah ⟨i, fl, A0, A1, A70, A71, A17, A72, hap, hm⟩ Aih
          try simp at A0 A1 A70 A71
          by_cases hi : i < P.length
          · have h3 := hall _ (nth_mem hi)
            have htk : (P.take (i + 1)).map (fun i => (nth l i.toNat).text) = (P.take i).map (fun i => (nth l i.toNat).text) ++ [(nth l (nth P i).toNat).text] := by rw [nth_take hi]; simp
            have h4 : (nth P i).toNat < l.length := by omega
            have h5 : ((P.take i).map (fun i => (nth l i.toNat).text)).length ≤ i := by simp; omega
            repeat' (first | (refine wpc_split _ (fun hc => ?_) (fun hc => ?_) <;> (try simp at hc)) | (refine ww_split _ (fun hc => ?_) (fun hc => ?_) <;> (try simp at hc)) | (refine wp_drawF (by kernel_rfl) ?_) | (refine wk_yldW _ ?_) | (refine layOwe _ (by kernel_rfl) ?_) | (refine owe ?_ (fun ho => ?_)) | (simp (disch := first | assumption | omega | (simp; done) | (simp; omega)) [A0, A1, A70, A71, A17, A72, eI, eE, fold_S1, -getElem?_pos, List.getElem?_cons_zero, List.getElem?_cons_succ]))
            exact Aih (Am - 1) _ _ (by omega) ⟨i + 1, _, by simp [A0, A1, A70, A71, A17, A72, htk], by simp [A0, A1, A70, A71, A17, A72, htk], by simp [A0, A1, A70, A71, A17, A72, htk], by simp [A0, A1, A70, A71, A17, A72, htk], by simp [A0, A1, A70, A71, A17, A72, htk], by simp [A0, A1, A70, A71, A17, A72, htk], App.new _ _ _, by omega⟩
          · have h1 : P.take i = P := List.take_of_length_le (by omega)
            rw [h1] at A17
            have h2 : (P.map fun i => (nth l i.toNat).text).length < 1099511627776 := by simp; omega
            repeat' (first | (refine wpc_split _ (fun hc => ?_) (fun hc => ?_) <;> (try simp at hc)) | (refine ww_split _ (fun hc => ?_) (fun hc => ?_) <;> (try simp at hc)) | (refine wp_drawF (by kernel_rfl) ?_) | (refine wk_yldW _ ?_) | (refine layOwe _ (by kernel_rfl) ?_) | (refine owe ?_ (fun ho => ?_)) | (simp (disch := first | assumption | omega | (simp; done) | (simp; omega)) [A0, A1, A70, A71, A17, A72, hZ, hsd, -getElem?_pos, List.getElem?_cons_zero, List.getElem?_cons_succ]))
      · cases hsa : saidE n l ws with
        | false =>
          refine outS_of_wp cfg (fn := Tryd.f7) Tryd.func7 rfl (by simp [Tryd.f7]) ?_
          simp (disch := first | assumption | omega | (simp; done) | (simp; omega)) [-getElem?_pos, List.getElem?_cons_zero, List.getElem?_cons_succ, Tryd.f7, hr, hfw, hb0, hZ, hsa]
          repeat' (first | (refine wpc_split _ (fun hc => ?_) (fun hc => ?_) <;> (try simp at hc)) | (refine ww_split _ (fun hc => ?_) (fun hc => ?_) <;> (try simp at hc)) | (refine wp_drawF (by kernel_rfl) ?_) | (refine wk_yldW _ ?_) | (refine layOwe _ (by kernel_rfl) ?_) | (refine owe ?_ (fun ho => ?_)) | (simp (disch := first | assumption | omega | (simp; done) | (simp; omega)) [hr, hfw, hb0, hZ, hsa, hW, hw, -getElem?_pos, List.getElem?_cons_zero, List.getElem?_cons_succ]))
          all_goals (exfalso; rw [hW] at hc; exact hw hc)
        | true =>
          have hb2 := hb1 hsa
          refine outS_of_wp cfg (fn := Tryd.f7) Tryd.func7 rfl (by simp [Tryd.f7]) ?_
          simp (disch := first | assumption | omega | (simp; done) | (simp; omega)) [-getElem?_pos, List.getElem?_cons_zero, List.getElem?_cons_succ, Tryd.f7, hr, hfw, hb0, hZ, hsa, hb2]
          repeat' (first | (refine wpc_split _ (fun hc => ?_) (fun hc => ?_) <;> (try simp at hc)) | (refine ww_split _ (fun hc => ?_) (fun hc => ?_) <;> (try simp at hc)) | (refine wp_drawF (by kernel_rfl) ?_) | (refine wk_yldW _ ?_) | (refine layOwe _ (by kernel_rfl) ?_) | (refine owe ?_ (fun ho => ?_)) | (simp (disch := first | assumption | omega | (simp; done) | (simp; omega)) [hr, hfw, hb0, hZ, hsa, hb2, hW, hw, -getElem?_pos, List.getElem?_cons_zero, List.getElem?_cons_succ]))
          all_goals (exfalso; rw [hW] at hc; exact hw hc)
@[simp] theorem S7 (n : Int) (l : List Edge) (picks : List Int) (ws : List (List UInt8)) (hs : l.length < 4294967296 ∧ picks.length < 4294967296) (hs3 : ws.length < 1099511627776) (ht : ∀ x ∈ l, x.text.length < 1099511627776) (htw : ∀ x ∈ ws, x.length < 1099511627776) (hp : ∀ x ∈ picks, 0 ≤ x ∧ x ≤ 255) (q1 q2 q3 : Fl) (hh : Heap) : Ci cfg (.func (.func 7) [] []) [.int .i64 n, R  q1 eE l, R  q2 eU picks, R  q3 eS ws] hh = some (.ret (.bool true), hh) :=
  Ci_K cfg rfl rfl (by simp) (by simp) (C7 n l picks ws hs hs3 ht htw hp)
end Go.Ab
