/- LatticeLeast: the law. -/
import Derived.Test.YtgfomibaakpdnaaDoorD20
set_option linter.unusedVariables false
set_option linter.unusedSimpArgs false
set_option linter.unusedSectionVars false
set_option linter.deprecated false
namespace Go.Ab
open Go.Proofs
set_option maxRecDepth 100000
set_option maxHeartbeats 4000000
theorem C5 (n : Int) (l : List Edge) (picks : List Int) (hs : l.length < 4294967296 ∧ picks.length < 4294967296) (ht : ∀ x ∈ l, x.text.length < 1099511627776) (hp : ∀ x ∈ picks, 0 ≤ x ∧ x ≤ 255) : Kc cfg 5 [.int .i64 n, R fl0 eE l, R fl0 eU picks] (.ret (.bool true)) := by
  have hs1 : l.length < 1099511627776 := by omega
  cases hr : rightE n l with
  | false =>
    refine outS_of_wp cfg (fn := Tryd.f5) Tryd.func5 rfl (by simp [Tryd.f5]) ?_
    simp (disch := first | assumption | omega | (simp; done) | (simp; omega)) [-getElem?_pos, List.getElem?_cons_zero, List.getElem?_cons_succ, Tryd.f5, hr]
    repeat' (first | (refine wpc_split _ (fun hc => ?_) (fun hc => ?_) <;> (try simp at hc)) | (refine ww_split _ (fun hc => ?_) (fun hc => ?_) <;> (try simp at hc)) | (refine wp_drawF (by kernel_rfl) ?_) | (refine wk_yldW _ ?_) | (refine layOwe _ (by kernel_rfl) ?_) | (refine owe ?_ (fun ho => ?_)) | (simp (disch := first | assumption | omega | (simp; done) | (simp; omega)) [hr, -getElem?_pos, List.getElem?_cons_zero, List.getElem?_cons_succ]))
  | true =>
    obtain ⟨hl30, hck⟩ := rightE_ok hr
    have hn := (checkE_ok hck).1
    have hn0 : 0 ≤ n := by omega
    have hc := costs_in hck
    have hq := walkR_path (n := n.toNat) (l := l) (p := picks) (v := 0)
    have hql := walkR_len (l := l) (p := picks) (v := 0)
    have hni : ((n.toNat : Nat) : Int) = n := by omega
    rw [hni] at hq
    by_cases hd : DE n l 0 ≤ sumE l
    · obtain ⟨b1, b2⟩ := best_ok hck hd
      have hB := best_yes hck hd
      have hbl := best_len n l
      rw [hB] at hbl
      have hbp := best_path hck (p := (walkR l picks 0).1)
      generalize hP : pathE l (FE n l) n.toNat n.toNat 0 = P at *
      have hb := path_all b1
      have hs2 : l.length < 1099511627776 ∧ P.length < 1099511627776 := ⟨hs1, by simp only at hbl; omega⟩
      generalize hW : walkR l picks 0 = W at *
      have S1 := S24 n l P hs2 hn0
      have S2 := S25 l P hs2 hb hc
      by_cases hw : W.2 = n
      · have hpw := hq hw
        obtain ⟨c1, c2, c3, c4⟩ := hbp hpw
        have hs3 : l.length < 1099511627776 ∧ W.1.length < 1099511627776 := ⟨hs1, by omega⟩
        have hs4 : W.1.length < 1099511627776 ∧ P.length < 1099511627776 := ⟨hs3.2, hs2.2⟩
        have S3 := S25 l W.1 hs3 (path_all hpw) hc
        by_cases e : wtP l W.1 = DE n l 0
        · have c5 := c4 e
          refine outS_of_wp cfg (fn := Tryd.f5) Tryd.func5 rfl (by simp [Tryd.f5]) ?_
          simp (disch := first | assumption | omega | (simp; done) | (simp; omega)) [-getElem?_pos, List.getElem?_cons_zero, List.getElem?_cons_succ, Tryd.f5, hr, hB]
          repeat' (first | (refine wpc_split _ (fun hc => ?_) (fun hc => ?_) <;> (try simp at hc)) | (refine ww_split _ (fun hc => ?_) (fun hc => ?_) <;> (try simp at hc)) | (refine wp_drawF (by kernel_rfl) ?_) | (refine wk_yldW _ ?_) | (refine layOwe _ (by kernel_rfl) ?_) | (refine owe ?_ (fun ho => ?_)) | (simp (disch := first | assumption | omega | (simp; done) | (simp; omega)) [hr, hB, b1, b2, hW, hw, S1, S2, S3, e, c5, -getElem?_pos, List.getElem?_cons_zero, List.getElem?_cons_succ]))
        · have c5 : DE n l 0 < wtP l W.1 := by omega
          refine outS_of_wp cfg (fn := Tryd.f5) Tryd.func5 rfl (by simp [Tryd.f5]) ?_
          simp (disch := first | assumption | omega | (simp; done) | (simp; omega)) [-getElem?_pos, List.getElem?_cons_zero, List.getElem?_cons_succ, Tryd.f5, hr, hB]
          repeat' (first | (refine wpc_split _ (fun hc => ?_) (fun hc => ?_) <;> (try simp at hc)) | (refine ww_split _ (fun hc => ?_) (fun hc => ?_) <;> (try simp at hc)) | (refine wp_drawF (by kernel_rfl) ?_) | (refine wk_yldW _ ?_) | (refine layOwe _ (by kernel_rfl) ?_) | (refine owe ?_ (fun ho => ?_)) | (simp (disch := first | assumption | omega | (simp; done) | (simp; omega)) [hr, hB, b1, b2, hW, hw, S1, S2, S3, c5, -getElem?_pos, List.getElem?_cons_zero, List.getElem?_cons_succ]))
          all_goals first | rfl | (exfalso; omega)
      · skip
        refine outS_of_wp cfg (fn := Tryd.f5) Tryd.func5 rfl (by simp [Tryd.f5]) ?_
        simp (disch := first | assumption | omega | (simp; done) | (simp; omega)) [-getElem?_pos, List.getElem?_cons_zero, List.getElem?_cons_succ, Tryd.f5, hr, hB]
        repeat' (first | (refine wpc_split _ (fun hc => ?_) (fun hc => ?_) <;> (try simp at hc)) | (refine ww_split _ (fun hc => ?_) (fun hc => ?_) <;> (try simp at hc)) | (refine wp_drawF (by kernel_rfl) ?_) | (refine wk_yldW _ ?_) | (refine layOwe _ (by kernel_rfl) ?_) | (refine owe ?_ (fun ho => ?_)) | (simp (disch := first | assumption | omega | (simp; done) | (simp; omega)) [hr, hB, b1, b2, hW, hw, S1, S2, -getElem?_pos, List.getElem?_cons_zero, List.getElem?_cons_succ]))
        all_goals (exfalso; rw [hW] at hc; exact hw hc)
    · have hB := best_no hck hd
      have hbp := best_path hck (p := (walkR l picks 0).1)
      generalize hW : walkR l picks 0 = W at *
      have hw : ¬ W.2 = n := fun e => hd (hbp (hq e)).2.2.1
      refine outS_of_wp cfg (fn := Tryd.f5) Tryd.func5 rfl (by simp [Tryd.f5]) ?_
      simp (disch := first | assumption | omega | (simp; done) | (simp; omega)) [-getElem?_pos, List.getElem?_cons_zero, List.getElem?_cons_succ, Tryd.f5, hr, hB]
      repeat' (first | (refine wpc_split _ (fun hc => ?_) (fun hc => ?_) <;> (try simp at hc)) | (refine ww_split _ (fun hc => ?_) (fun hc => ?_) <;> (try simp at hc)) | (refine wp_drawF (by kernel_rfl) ?_) | (refine wk_yldW _ ?_) | (refine layOwe _ (by kernel_rfl) ?_) | (refine owe ?_ (fun ho => ?_)) | (simp (disch := first | assumption | omega | (simp; done) | (simp; omega)) [hr, hB, hW, hw, -getElem?_pos, List.getElem?_cons_zero, List.getElem?_cons_succ]))
      all_goals (exfalso; rw [hW] at hc; exact hw hc)
@[simp] theorem S5 (n : Int) (l : List Edge) (picks : List Int) (hs : l.length < 4294967296 ∧ picks.length < 4294967296) (ht : ∀ x ∈ l, x.text.length < 1099511627776) (hp : ∀ x ∈ picks, 0 ≤ x ∧ x ≤ 255) (q1 q2 : Fl) (hh : Heap) : Ci cfg (.func (.func 5) [] []) [.int .i64 n, R  q1 eE l, R  q2 eU picks] hh = some (.ret (.bool true), hh) :=
  Ci_K cfg rfl rfl (by simp) (by simp) (C5 n l picks hs ht hp)
end Go.Ab
