/- Layer 10 (direction): Show; comparing. -/
import Derived.Test.YtjhpmmomalaiiaaDoorB5
import Derived.Test.YtjhpmmomalaiiaaDoorT8
import Derived.Test.YtjhpmmomalaiiaaDoorT9
set_option linter.unusedVariables false
set_option linter.unusedSimpArgs false
set_option linter.unusedSectionVars false
set_option linter.deprecated false
namespace Go.Ab
open Go.Proofs
set_option maxRecDepth 100000
set_option maxHeartbeats 4000000
theorem lev_ok {s : List UInt8} (right : Bool) (h : (runesG s).2 = 0) : (levS (runesG s).1 right).2 = 0 ∧ (levS (runesG s).1 right).1.length = (runesG s).1.length ∧ (ordS (levS (runesG s).1 right).1).2 = 0 ∧ (runesG s).1.length ≤ 4096 ∧
    (ordS (levS (runesG s).1 right).1).1 = rowF (runesG s).1.length (fun i => (ordF (levS (runesG s).1 right).1 i : Int)) := by
  obtain ⟨h1, h2⟩ := runesG_all h
  obtain ⟨h3, h4⟩ := runes_enc' h2
  have h5 := runes_len _ _ _ (Nat.le_refl _) h2
  generalize (runesG s).1 = l at *
  have hok : okK l = true := okK_true fun i hi => by
    have := List.all_eq_true.1 h4 _ (nth_mem hi)
    unfold kindG; rw [if_pos this]
  have hL : levS l right = (lvL (baseF right) (rawL right l), 0) := by unfold levS; rw [if_neg (by omega), if_pos hok]
  have hr := levS_range (l := l) (right := right)
  rw [hL] at hr ⊢
  have hln : (lvL (baseF right) (rawL right l)).length = l.length := by rw [lvL_len, rawL_len]
  have hO := lev_good (L := lvL (baseF right) (rawL right l)) (fun i hi => hr _ (nth_mem hi)) (by omega)
  refine ⟨rfl, hln, ?_, by omega, ?_⟩
  · show (ordS (lvL (baseF right) (rawL right l))).2 = 0
    rw [hO]
  · show (ordS (lvL (baseF right) (rawL right l))).1 = rowF l.length (fun i => (ordF (lvL (baseF right) (rawL right l)) i : Int))
    rw [hO, hln]
/-- what is shown of a text's code points -/
def shownL (l : List Int) (L : List Int) : List Int := rowF l.length (fun i => nth l (ordF L i))
def showS (s : List UInt8) (right : Bool) : List UInt8 × Int := if (runesG s).2 = 0 then joinG (shownL (runesG s).1 (levS (runesG s).1 right).1) else ([], (runesG s).2)
theorem shown_take (l L : List Int) (i : Nat) : rowF (i + 1) (fun i => nth l (ordF L i)) = rowF i (fun i => nth l (ordF L i)) ++ [nth l (ordF L i)] := by unfold rowF; rw [List.range_succ, List.map_append]; rfl
theorem C16 (s : List UInt8) (right : Bool) (hs : s.length < 1099511627776) : Kc cfg 16 [.str s, .bool right] (.ret (.tuple [.str (showS s right).1, .int .i64 (showS s right).2])) := by
  by_cases he : (runesG s).2 = 0
  · obtain ⟨k1, k2, k3, k4, k5⟩ := lev_ok right he
    have hS : showS s right = joinG (shownL (runesG s).1 (levS (runesG s).1 right).1) := by unfold showS; rw [if_pos he]
    rw [hS]
    generalize hl : (runesG s).1 = l at *
    generalize hL : (levS l right).1 = L at *
    have hsl : l.length < 1099511627776 := by omega
    have hsL : L.length < 1099511627776 := by omega
    have hrl : (rowF l.length (fun i => (ordF L i : Int))).length = l.length := by simp
    have hrn := fun i (h : i < l.length) => nth_rowF (g := fun i => (ordF L i : Int)) h
    have holt := fun i (h : i < l.length) => ordF_lt (L := L) (i := i) (by omega)
    generalize hW : rowF l.length (fun i => (ordF L i : Int)) = W at *
    refine outS_of_wp cfg (fn := Tryd.f16) Tryd.func16 rfl (by simp [Tryd.f16]) ?_
    simp (disch := first | assumption | omega | (simp; done) | (simp; omega)) [-getElem?_pos, List.getElem?_cons_zero, List.getElem?_cons_succ, Tryd.f16, he, hl, hL, k1, k3, k5]
    repeat' (first | (refine wpc_split _ (fun hc => ?_) (fun hc => ?_) <;> (try simp at hc)) | (refine ww_split _ (fun hc => ?_) (fun hc => ?_) <;> (try simp at hc)) | (refine wp_drawF (by kernel_rfl) ?_) | (refine wk_yldW _ ?_) | (refine layOwe _ (by kernel_rfl) ?_) | (refine owe ?_ (fun ho => ?_)) | (simp (disch := first | assumption | omega | (simp; done) | (simp; omega)) [he, hl, hL, k1, k3, k5, -getElem?_pos, List.getElem?_cons_zero, List.getElem?_cons_succ]))
    refine wp_loopE cfg rfl (fun f0 h0 m fr h => ∃ i : Nat, ∃ fl : Fl, fr 6 = f0 6 ∧ fr 37 = f0 37 ∧ fr 38 = f0 38 ∧ fr 9 = R fl eI (rowF i (fun i => nth l (ordF L i))) ∧ fr 39 = .int .i64 i ∧ (App h.ts 1 fl) ∧ (i + m = l.length)) (l.length) _ _ ⟨0, (true, true, none), rfl, rfl, rfl, by first | rfl | (simp; done) | (simp [R]; done) | simp [R], by first | rfl | (simp; done) | (simp [R]; done) | simp [R], App.nil _ _ _, by first | rfl | (simp; done) | omega⟩ ?_
    rintro Am Af Ah ⟨i, fl, A6, A37, A38, A9, A39, hap, hm⟩ Aih
    try simp at A6 A37 A38
    by_cases hi : i < l.length
    · have hst := shown_take l L i
      have hrni := hrn i hi
      have hlt := holt i hi
      have hlt2 : ordF L i < l.length := by omega
      have hrf : (rowF i (fun i => nth l (ordF L i))).length = i := rowF_len _ _
      repeat' (first | (refine wpc_split _ (fun hc => ?_) (fun hc => ?_) <;> (try simp at hc)) | (refine ww_split _ (fun hc => ?_) (fun hc => ?_) <;> (try simp at hc)) | (refine wp_drawF (by kernel_rfl) ?_) | (refine wk_yldW _ ?_) | (refine layOwe _ (by kernel_rfl) ?_) | (refine owe ?_ (fun ho => ?_)) | (simp (disch := first | assumption | omega | (simp; done) | (simp; omega)) [A6, A37, A38, A9, A39, eI, hrni, fold_I1, -getElem?_pos, List.getElem?_cons_zero, List.getElem?_cons_succ]))
      exact Aih (Am - 1) _ _ (by omega) ⟨i + 1, _, by simp [A6, A37, A38, A9, A39, hst], by simp [A6, A37, A38, A9, A39, hst], by simp [A6, A37, A38, A9, A39, hst], by simp [A6, A37, A38, A9, A39, hst], by simp [A6, A37, A38, A9, A39, hst], App.new _ _ _, by omega⟩
    · obtain rfl : i = l.length := by omega
      have hsh : rowF l.length (fun i => nth l (ordF L i)) = shownL l L := rfl
      have hll : (shownL l L).length ≤ 4294967296 := by simp [shownL]; omega
      rw [hsh] at A9
      repeat' (first | (refine wpc_split _ (fun hc => ?_) (fun hc => ?_) <;> (try simp at hc)) | (refine ww_split _ (fun hc => ?_) (fun hc => ?_) <;> (try simp at hc)) | (refine wp_drawF (by kernel_rfl) ?_) | (refine wk_yldW _ ?_) | (refine layOwe _ (by kernel_rfl) ?_) | (refine owe ?_ (fun ho => ?_)) | (simp (disch := first | assumption | omega | (simp; done) | (simp; omega)) [A6, A37, A38, A9, A39, -getElem?_pos, List.getElem?_cons_zero, List.getElem?_cons_succ]))
  · have hS : showS s right = ([], (runesG s).2) := by unfold showS; rw [if_neg he]
    rw [hS]
    refine outS_of_wp cfg (fn := Tryd.f16) Tryd.func16 rfl (by simp [Tryd.f16]) ?_
    simp (disch := first | assumption | omega | (simp; done) | (simp; omega)) [-getElem?_pos, List.getElem?_cons_zero, List.getElem?_cons_succ, Tryd.f16, he]
    repeat' (first | (refine wpc_split _ (fun hc => ?_) (fun hc => ?_) <;> (try simp at hc)) | (refine ww_split _ (fun hc => ?_) (fun hc => ?_) <;> (try simp at hc)) | (refine wp_drawF (by kernel_rfl) ?_) | (refine wk_yldW _ ?_) | (refine layOwe _ (by kernel_rfl) ?_) | (refine owe ?_ (fun ho => ?_)) | (simp (disch := first | assumption | omega | (simp; done) | (simp; omega)) [he, -getElem?_pos, List.getElem?_cons_zero, List.getElem?_cons_succ]))
@[simp] theorem S16 (s : List UInt8) (right : Bool) (hs : s.length < 1099511627776) (hh : Heap) : Ci cfg (.func (.func 16) [] []) [.str s, .bool right] hh = some (.ret (.tuple [.str (showS s right).1, .int .i64 (showS s right).2]), hh) :=
  Ci_K cfg rfl rfl (by simp) (by simp) (C16 s right hs)
end Go.Ab
