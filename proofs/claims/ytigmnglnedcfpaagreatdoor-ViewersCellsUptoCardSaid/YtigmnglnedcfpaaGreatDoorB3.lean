
import Derived.Test.YtigmnglnedcfpaaGreatDoorGr12
set_option linter.unusedVariables false
set_option linter.unusedSimpArgs false
set_option linter.unusedSectionVars false
set_option linter.deprecated false
namespace Go.Ab
open Go.Proofs
set_option maxRecDepth 100000
set_option maxHeartbeats 4000000
def turnL (O L : List Int) (k : Int) : List Int := rowF L.length (fun i => nth O (revF (geL L k) L.length i))
def tuT (O L : List Int) (k : Int) (i : Nat) : Nat → Int := fun j => if j < i then nth O (revF (geL L k) L.length j) else nth O j
theorem tuT_zero (O L : List Int) (k : Int) : tuT O L k 0 = nth O := by funext j; unfold tuT; rw [if_neg (by omega)]
theorem tuT_set {O L : List Int} {k N : Int} {i : Nat} (h : nth O (revF (geL L k) L.length i) = N) : updI (tuT O L k i) i N = tuT O L k (i + 1) := by
 funext j
 show (if j = i then N else if j < i then nth O (revF (geL L k) L.length j) else nth O j) = (if j < i + 1 then nth O (revF (geL L k) L.length j) else nth O j)
 by_cases e : j = i
 ·subst e; rw [if_pos rfl, if_pos (by omega), h]
 ·rw [if_neg e]
  by_cases h1 : j < i
  ·rw [if_pos h1, if_pos (by omega)]
  ·rw [if_neg h1, if_neg (by omega)]
theorem tuT_same {O L : List Int} {k : Int} {i : Nat} (h : geL L k i = false) : tuT O L k i = tuT O L k (i + 1) := by
 rw [← tuT_set (N := nth O i) (by rw [revF_no h])]
 funext j
 show _ = (if j = i then nth O i else tuT O L k i j)
 by_cases e : j = i
 ·subst e; rw [if_pos rfl]; unfold tuT; rw [if_neg (by omega)]
 ·rw [if_neg e]
theorem tuT_all {O L : List Int} {k : Int} {i : Nat} (h : L.length ≤ i) : tab L.length (cI (tuT O L k i)) = rows eI (turnL O L k) := by
 rw [turnL, rowF_cI]
 exact tab_ext fun j hj => by
  unfold cI tuT
  rw [if_pos (by omega)]
theorem turnL_len (O L : List Int) (k : Int) : (turnL O L k).length = L.length := by simp [turnL]
theorem C82 (O L : List Int) (k : Int) (hs : L.length < 1048576) (he : O.length = L.length) : Kc cfg 82 [R fl0 eI O, R fl0 eI L, .int .i64 k] (.ret (R fl0 eI (turnL O L k))) := by
 have hnl : V.row false true [] 0 none = R (false, true, none) eI [] := rfl
 by_cases h0 : O = []
 ·subst h0
  have hL : L = [] := List.eq_nil_of_length_eq_zero he.symm
  subst hL
  have hap0 : ∀ h fl2, appendV Tryz.prog h true #[41, 41] (R (false, true, none) eI []) (R fl2 eI []) = some (R (false, true, none) eI [], h) := fun h fl2 => by
   obtain ⟨b, hb1, hb2⟩ := apok_apz (P := Tryz.prog) (ts := #[41, 41]) (sz := 1) (by kernel_rfl)
   exact appendB_R_nil (l := ([] : List Int)) hb1 (by simp) hb2
  refine outS_of_wp cfg (fn := Tryz.f82) Tryz.func82 rfl (by simp [Tryz.f82]) ?_
  simp (disch := first | assumption | omega | (simp; done) | (simp; omega)) [-getElem?_pos, gZ, gS, Tryz.f82, emptyH]
  repeat' (first | (refine wp_unroll rfl ?_) | ((first | refine wpc_split _ ?_ ?_ | refine ww_split _ ?_ ?_) <;> intro hc <;> try simp at hc) | (refine wp_drawF (by kernel_rfl) ?_) | refine wk_yldW _ ?_ | refine layOwe _ (by kernel_rfl) ?_ | refine owe ?_ (fun ho => ?_) | (simp (disch := first | assumption | omega | (simp; done) | (simp; omega)) [emptyH, hnl, hap0, -getElem?_pos, gZ, gS]))
  all_goals rfl
 have hapB : ∀ h fl2, appendV Tryz.prog h true #[41, 41] (R (false, true, none) eI []) (R fl2 eI O) = some (.slice h.bs.length 0 O.length 1, newB h (.cells (tab O.length (cI (nth O))))) := fun h fl2 => by
  have := append_Bn (P := Tryz.prog) (E := eI) (h := h) (fl := (false, true, none)) (l := ([] : List Int)) (m := O) (ts := #[41, 41]) (fl2 := fl2) (by kernel_rfl) h0 rfl (by simp; omega)
  simpa [rows_nth'] using this
 refine outS_of_wp cfg (fn := Tryz.f82) Tryz.func82 rfl (by simp [Tryz.f82]) ?_
 simp (disch := first | assumption | omega | (simp; done) | (simp; omega)) [-getElem?_pos, gZ, gS, Tryz.f82, emptyH]
 repeat' (first | ((first | refine wpc_split _ ?_ ?_ | refine ww_split _ ?_ ?_) <;> intro hc <;> try simp at hc) | (refine wp_drawF (by kernel_rfl) ?_) | refine wk_yldW _ ?_ | refine layOwe _ (by kernel_rfl) ?_ | refine owe ?_ (fun ho => ?_) | (simp (disch := first | assumption | omega | (simp; done) | (simp; omega)) [emptyH, hnl, hapB, -getElem?_pos, gZ, gS]))
 refine wp_loopE cfg rfl (fun f0 h0 m fr h => ∃ i : Nat, fr 0 = f0 0 ∧ fr 1 = f0 1 ∧ fr 2 = f0 2 ∧ fr 7 = f0 7 ∧ fr 8 = .int .i64 i ∧ (h.bs = [.cells (tab L.length (cI (tuT O L k i)))]) ∧ (i + m = L.length)) (L.length) _ _ ⟨0, rfl, rfl, rfl, rfl, by first | rfl | (simp; done) | (simp [R]; done) | simp [R], by simp [tuT_zero, he], by first | rfl | (simp; done) | omega⟩ ?_
 rintro Am Af Ah ⟨i, A0, A1, A2, A7, A8, hb, hm⟩ Aih
 try simp at A0 A1 A2 A7
 by_cases hi : i < L.length
 ·cases hg : geL L k i with
  | false =>
   have hlt : nth L i < k := by unfold geL at hg; simpa using hg
   have hst := tuT_same (O := O) hg
   repeat' (first | ((first | refine wpc_split _ ?_ ?_ | refine ww_split _ ?_ ?_) <;> intro hc <;> try simp at hc) | (refine wp_drawF (by kernel_rfl) ?_) | refine wk_yldW _ ?_ | refine layOwe _ (by kernel_rfl) ?_ | refine owe ?_ (fun ho => ?_) | (simp (disch := first | assumption | omega | (simp; done) | (simp; omega)) [A0, A1, A2, A7, A8, eI, -getElem?_pos, gZ, gS]))
   all_goals first
    | (exfalso; omega)
    | exact Aih (Am - 1) _ _ (by omega) ⟨i + 1, by simp [A0, A1, A2, A7, A8, hst, hb], by simp [A0, A1, A2, A7, A8, hst, hb], by simp [A0, A1, A2, A7, A8, hst, hb], by simp [A0, A1, A2, A7, A8, hst, hb], by simp [A0, A1, A2, A7, A8, hst, hb], (by simp [hb, hst]), by omega⟩
  | true =>
   have hge : k ≤ nth L i := by unfold geL at hg; simpa using hg
   repeat' (first | ((first | refine wpc_split _ ?_ ?_ | refine ww_split _ ?_ ?_) <;> intro hc <;> try simp at hc) | (refine wp_drawF (by kernel_rfl) ?_) | refine wk_yldW _ ?_ | refine layOwe _ (by kernel_rfl) ?_ | refine owe ?_ (fun ho => ?_) | (simp (disch := first | assumption | omega | (simp; done) | (simp; omega)) [A0, A1, A2, A7, A8, eI, -getElem?_pos, gZ, gS]))
   all_goals first
    | (exfalso; omega)
    | skip
   refine wp_loopE cfg rfl (fun f0 h0 m fr h => ∃ q : Nat, fr 0 = f0 0 ∧ fr 1 = f0 1 ∧ fr 2 = f0 2 ∧ fr 7 = f0 7 ∧ fr 8 = f0 8 ∧ fr 9 = .int .i64 q ∧ h.bs = h0.bs ∧ (m = q) ∧ (q ≤ i) ∧ (fromP (geL L k) q = fromP (geL L k) i)) (i) _ _ ⟨i, rfl, rfl, rfl, rfl, rfl, by first | rfl | (simp; done) | (simp [R]; done) | simp [R], rfl, by first | rfl | (simp; done) | omega, by first | rfl | (simp; done) | omega, by first | rfl | (simp; done) | omega⟩ ?_
   rintro Bm Bf Bh ⟨q, B0, B1, B2, B7, B8, B9, Bbs, hm2, hq, hf⟩ Bih
   try simp [A0, A1, A2, A7, A8] at B0 B1 B2 B7 B8 Bbs
   by_cases hgo : 0 < q ∧ geL L k (q - 1) = true
   ·obtain ⟨p, rfl⟩ : ∃ p, q = p + 1 := ⟨q - 1, by omega⟩
    have hg2 := hgo.2
    simp only [Nat.add_sub_cancel] at hg2
    rw [fromP_step hg2] at hf
    have hg3 : k ≤ nth L p := by unfold geL at hg2; simpa using hg2
    have hpl : p < L.length := by omega
    repeat' (first | ((first | refine wpc_split _ ?_ ?_ | refine ww_split _ ?_ ?_) <;> intro hc <;> try simp at hc) | (refine wp_drawF (by kernel_rfl) ?_) | refine wk_yldW _ ?_ | refine layOwe _ (by kernel_rfl) ?_ | refine owe ?_ (fun ho => ?_) | (simp (disch := first | assumption | omega | (simp; done) | (simp; omega)) [B0, B1, B2, B7, B8, B9, Bbs, eI, -getElem?_pos, gZ, gS]))
    all_goals first
     | (exfalso; omega)
     | exact Bih (Bm - 1) _ _ (by omega) ⟨p, by simp [B0, B1, B2, B7, B8, B9, Bbs, A0, A1, A2, A7, A8], by simp [B0, B1, B2, B7, B8, B9, Bbs, A0, A1, A2, A7, A8], by simp [B0, B1, B2, B7, B8, B9, Bbs, A0, A1, A2, A7, A8], by simp [B0, B1, B2, B7, B8, B9, Bbs, A0, A1, A2, A7, A8], by simp [B0, B1, B2, B7, B8, B9, Bbs, A0, A1, A2, A7, A8], by simp [B0, B1, B2, B7, B8, B9, Bbs, A0, A1, A2, A7, A8], by simp [B0, B1, B2, B7, B8, B9, Bbs, A0, A1, A2, A7, A8], by omega, by omega, hf⟩
   ·have hfq : fromP (geL L k) i = q := by
     rw [← hf]
     cases q with
     | zero => rfl
     | succ p =>
      have : geL L k p = false := by
       cases h : geL L k p with
       | false => rfl
       | true => exact absurd ⟨by omega, by simpa using h⟩ hgo
      exact fromP_stop this
    have hnq : 0 < q → nth L (q - 1) < k := by
     intro hq0
     cases h : geL L k (q - 1) with
     | false => unfold geL at h; simpa using h
     | true => exact absurd ⟨hq0, h⟩ hgo
    have hql : q - 1 < L.length := by omega
    have hq3 : ((q : Int) - 1).toNat = q - 1 := by omega
    have hsplit : q = 0 ∨ (0 < q ∧ nth L (q - 1) < k) := by
     rcases Nat.eq_zero_or_pos q with h | h
     ·exact .inl h
     ·exact .inr ⟨h, hnq h⟩
    have hu0 : untP (geL L k) (L.length - (i + 1)) (i + 1) = untilP (geL L k) L.length i := (untP_step hi hg).symm
    rcases hsplit with hz | hz
    all_goals
     repeat' (first | ((first | refine wpc_split _ ?_ ?_ | refine ww_split _ ?_ ?_) <;> intro hc <;> try simp at hc) | (refine wp_drawF (by kernel_rfl) ?_) | refine wk_yldW _ ?_ | refine layOwe _ (by kernel_rfl) ?_ | refine owe ?_ (fun ho => ?_) | (simp (disch := first | assumption | omega | (simp; done) | (simp; omega)) [B0, B1, B2, B7, B8, B9, Bbs, eI, hq3, -getElem?_pos, gZ, gS]))
     all_goals first
      | (exfalso; omega)
      | skip
     refine wp_loopE cfg rfl (fun f0 h0 m fr h => ∃ u : Nat, fr 0 = f0 0 ∧ fr 1 = f0 1 ∧ fr 2 = f0 2 ∧ fr 7 = f0 7 ∧ fr 8 = f0 8 ∧ fr 9 = f0 9 ∧ fr 10 = .int .i64 u ∧ h.bs = h0.bs ∧ (u + m = L.length) ∧ (untP (geL L k) (L.length - u) u = untilP (geL L k) L.length i) ∧ (i < u)) (L.length - (i + 1)) _ _ ⟨i + 1, rfl, rfl, rfl, rfl, rfl, rfl, by first | rfl | (simp; done) | (simp [R]; done) | simp [R], rfl, by first | rfl | (simp; done) | omega, hu0, by first | rfl | (simp; done) | omega⟩ ?_
     rintro Em Ef Eh ⟨u, E0, E1, E2, E7, E8, E9, E10, Ebs, hm3, hu, hiu⟩ Eih
     try simp [B0, B1, B2, B7, B8, B9, Bbs, A0, A1, A2, A7, A8] at E0 E1 E2 E7 E8 E9 Ebs
     by_cases hgo2 : u < L.length ∧ geL L k u = true
     ·have hg4 : k ≤ nth L u := of_decide_eq_true hgo2.2
      rw [untP_step hgo2.1 hgo2.2] at hu
      have hul := hgo2.1
      repeat' (first | ((first | refine wpc_split _ ?_ ?_ | refine ww_split _ ?_ ?_) <;> intro hc <;> try simp at hc) | (refine wp_drawF (by kernel_rfl) ?_) | refine wk_yldW _ ?_ | refine layOwe _ (by kernel_rfl) ?_ | refine owe ?_ (fun ho => ?_) | (simp (disch := first | assumption | omega | (simp; done) | (simp; omega)) [E0, E1, E2, E7, E8, E9, E10, Ebs, eI, -getElem?_pos, gZ, gS]))
      all_goals first
       | (exfalso; omega)
       | exact Eih (Em - 1) _ _ (by omega) ⟨u + 1, by simp [E0, E1, E2, E7, E8, E9, E10, Ebs, B0, B1, B2, B7, B8, B9, Bbs, A0, A1, A2, A7, A8], by simp [E0, E1, E2, E7, E8, E9, E10, Ebs, B0, B1, B2, B7, B8, B9, Bbs, A0, A1, A2, A7, A8], by simp [E0, E1, E2, E7, E8, E9, E10, Ebs, B0, B1, B2, B7, B8, B9, Bbs, A0, A1, A2, A7, A8], by simp [E0, E1, E2, E7, E8, E9, E10, Ebs, B0, B1, B2, B7, B8, B9, Bbs, A0, A1, A2, A7, A8], by simp [E0, E1, E2, E7, E8, E9, E10, Ebs, B0, B1, B2, B7, B8, B9, Bbs, A0, A1, A2, A7, A8], by simp [E0, E1, E2, E7, E8, E9, E10, Ebs, B0, B1, B2, B7, B8, B9, Bbs, A0, A1, A2, A7, A8], by simp [E0, E1, E2, E7, E8, E9, E10, Ebs, B0, B1, B2, B7, B8, B9, Bbs, A0, A1, A2, A7, A8], by simp [E0, E1, E2, E7, E8, E9, E10, Ebs, B0, B1, B2, B7, B8, B9, Bbs, A0, A1, A2, A7, A8], by omega, hu, by omega⟩
     ·have huu : untilP (geL L k) L.length i = u := by
       rw [← hu]
       refine untP_stop ?_
       by_cases h : u < L.length
       ·right
        cases h2 : geL L k u with
        | false => rfl
        | true => exact absurd ⟨h, h2⟩ hgo2
       ·left; omega
      have hrev : revF (geL L k) L.length i = q + u - 1 - i := by unfold revF; rw [if_pos hg, hfq, huu]
      have hr1 := revF_lt (p := geL L k) hi
      rw [hrev] at hr1
      have hst := tuT_set (O := O) (L := L) (k := k) (i := i) (N := nth O (q + u - 1 - i)) (by rw [hrev])
      have hq4 : ((q : Int) + u - 1 - i).toNat = q + u - 1 - i := by omega
      have hr2 : q + u - 1 - i < O.length := by omega
      have hil : i < L.length := hi
      by_cases hul : u < L.length
      ·have hg4 : nth L u < k := by
        cases h2 : geL L k u with
        | false => unfold geL at h2; simpa using h2
        | true => exact absurd ⟨hul, h2⟩ hgo2
       repeat' (first | ((first | refine wpc_split _ ?_ ?_ | refine ww_split _ ?_ ?_) <;> intro hc <;> try simp at hc) | (refine wp_drawF (by kernel_rfl) ?_) | refine wk_yldW _ ?_ | refine layOwe _ (by kernel_rfl) ?_ | refine owe ?_ (fun ho => ?_) | (simp (disch := first | assumption | omega | (simp; done) | (simp; omega)) [E0, E1, E2, E7, E8, E9, E10, Ebs, eI, hb, he, hq4, tab_set, -getElem?_pos, gZ, gS]))
       all_goals first
        | (exfalso; omega)
        | exact Aih (Am - 1) _ _ (by omega) ⟨i + 1, by simp [E0, E1, E2, E7, E8, E9, E10, Ebs, B0, B1, B2, B7, B8, B9, Bbs, A0, A1, A2, A7, A8, hst, hb], by simp [E0, E1, E2, E7, E8, E9, E10, Ebs, B0, B1, B2, B7, B8, B9, Bbs, A0, A1, A2, A7, A8, hst, hb], by simp [E0, E1, E2, E7, E8, E9, E10, Ebs, B0, B1, B2, B7, B8, B9, Bbs, A0, A1, A2, A7, A8, hst, hb], by simp [E0, E1, E2, E7, E8, E9, E10, Ebs, B0, B1, B2, B7, B8, B9, Bbs, A0, A1, A2, A7, A8, hst, hb], by simp [E0, E1, E2, E7, E8, E9, E10, Ebs, B0, B1, B2, B7, B8, B9, Bbs, A0, A1, A2, A7, A8, hst, hb], (by simp [hb, hst]), by omega⟩
      ·repeat' (first | ((first | refine wpc_split _ ?_ ?_ | refine ww_split _ ?_ ?_) <;> intro hc <;> try simp at hc) | (refine wp_drawF (by kernel_rfl) ?_) | refine wk_yldW _ ?_ | refine layOwe _ (by kernel_rfl) ?_ | refine owe ?_ (fun ho => ?_) | (simp (disch := first | assumption | omega | (simp; done) | (simp; omega)) [E0, E1, E2, E7, E8, E9, E10, Ebs, eI, hb, he, hq4, tab_set, -getElem?_pos, gZ, gS]))
       all_goals first
        | (exfalso; omega)
        | exact Aih (Am - 1) _ _ (by omega) ⟨i + 1, by simp [E0, E1, E2, E7, E8, E9, E10, Ebs, B0, B1, B2, B7, B8, B9, Bbs, A0, A1, A2, A7, A8, hst, hb], by simp [E0, E1, E2, E7, E8, E9, E10, Ebs, B0, B1, B2, B7, B8, B9, Bbs, A0, A1, A2, A7, A8, hst, hb], by simp [E0, E1, E2, E7, E8, E9, E10, Ebs, B0, B1, B2, B7, B8, B9, Bbs, A0, A1, A2, A7, A8, hst, hb], by simp [E0, E1, E2, E7, E8, E9, E10, Ebs, B0, B1, B2, B7, B8, B9, Bbs, A0, A1, A2, A7, A8, hst, hb], by simp [E0, E1, E2, E7, E8, E9, E10, Ebs, B0, B1, B2, B7, B8, B9, Bbs, A0, A1, A2, A7, A8, hst, hb], (by simp [hb, hst]), by omega⟩
 ·have hall := tuT_all (O := O) (L := L) (k := k) (i := i) (by omega)
  rw [hall] at hb
  repeat' (first | ((first | refine wpc_split _ ?_ ?_ | refine ww_split _ ?_ ?_) <;> intro hc <;> try simp at hc) | (refine wp_drawF (by kernel_rfl) ?_) | refine wk_yldW _ ?_ | refine layOwe _ (by kernel_rfl) ?_ | refine owe ?_ (fun ho => ?_) | (simp (disch := first | assumption | omega | (simp; done) | (simp; omega)) [A0, A1, A2, A7, A8, -getElem?_pos, gZ, gS]))
  exact outS_sl (E := eI) (by rw [turnL_len, he]) (by rw [hb]; rfl)
@[simp] theorem S82 (O L : List Int) (k : Int) (hs : L.length < 1048576) (he : O.length = L.length) (q1 q2 : Fl) (hh : Heap) : Ci cfg (.func (.func 82) [] []) [R  q1 eI O, R  q2 eI L, .int .i64 k] hh = some (.ret (R fl0 eI (turnL O L k)), hh) :=
 Ci_K cfg rfl rfl (by simp) (by simp) (C82 O L k hs he)
def ordS (L : List Int) : List Int × Int := if 4096 < L.length then ([], 2) else if (L.all fun x => decide (0 ≤ x ∧ x ≤ 2)) = true then (rowF L.length (fun i => (ordF L i : Int)), 0) else ([], 100)
def iotaL (i : Nat) : List Int := (List.range i).map fun (j : Nat) => (j : Int)
theorem iotaL_succ (i : Nat) : iotaL (i + 1) = iotaL i ++ [(i : Int)] := by unfold iotaL; rw [List.range_succ, List.map_append]; rfl
theorem iotaL_len (i : Nat) : (iotaL i).length = i := by simp [iotaL]
theorem iotaL_nth {n i : Nat} (h : i < n) : nth (iotaL n) i = i := by rw [nth_eq (by simpa [iotaL] using h)]; simp [iotaL]
theorem turn_turn (L : List Int) : turnL (turnL (iotaL L.length) L 2) L 1 = rowF L.length (fun i => (ordF L i : Int)) := by
 refine ext_nth (by simp [turnL]) (fun i hi => ?_)
 have hi2 : i < L.length := by simpa [turnL] using hi
 have h1 := revF_lt (p := geL L 1) hi2
 rw [turnL, nth_rowF hi2, turnL, nth_rowF h1, iotaL_nth (revF_lt h1), nth_rowF hi2]
 rfl
theorem lev_bad {L : List Int} {i : Nat} (hi : i < L.length) (h : ¬ (0 ≤ nth L i ∧ nth L i ≤ 2)) (hl : ¬ 4096 < L.length) : ordS L = ([], 100) := by
 unfold ordS
 rw [if_neg hl, if_neg]
 intro ha
 exact h (of_decide_eq_true (List.all_eq_true.1 ha _ (nth_mem hi)))
theorem lev_good {L : List Int} (h : ∀ i, i < L.length → 0 ≤ nth L i ∧ nth L i ≤ 2) (hl : ¬ 4096 < L.length) : ordS L = (rowF L.length (fun i => (ordF L i : Int)), 0) := by
 unfold ordS
 rw [if_neg hl, if_pos]
 rw [List.all_eq_true]
 intro x hx
 obtain ⟨i, hi, rfl⟩ := List.mem_iff_getElem.1 hx
 rw [← nth_eq hi]; exact decide_eq_true (h i hi)
theorem C55 (L : List Int) (hs : L.length < 1099511627776) : Kc cfg 55 [R fl0 eI L] (.ret (.tuple [R fl0 eI (ordS L).1, .int .i64 (ordS L).2])) := by
 by_cases hl : 4096 < L.length
 ·have hO : ordS L = ([], 2) := by unfold ordS; rw [if_pos hl]
  rw [hO]
  refine outS_of_wp cfg (fn := Tryz.f55) Tryz.func55 rfl (by simp [Tryz.f55]) ?_
  simp (disch := first | assumption | omega | (simp; done) | (simp; omega)) [-getElem?_pos, gZ, gS, Tryz.f55]
  repeat' (first | ((first | refine wpc_split _ ?_ ?_ | refine ww_split _ ?_ ?_) <;> intro hc <;> try simp at hc) | (refine wp_drawF (by kernel_rfl) ?_) | refine wk_yldW _ ?_ | refine layOwe _ (by kernel_rfl) ?_ | refine owe ?_ (fun ho => ?_) | (simp (disch := first | assumption | omega | (simp; done) | (simp; omega)) [-getElem?_pos, gZ, gS]))
  all_goals first | rfl | (exfalso; omega)
 have hbad := fun i => lev_bad (L := L) (i := i)
 have hgood := lev_good (L := L)
 generalize hO : ordS L = OS at *
 refine outS_of_wp cfg (fn := Tryz.f55) Tryz.func55 rfl (by simp [Tryz.f55]) ?_
 simp (disch := first | assumption | omega | (simp; done) | (simp; omega)) [-getElem?_pos, gZ, gS, Tryz.f55]
 repeat' (first | ((first | refine wpc_split _ ?_ ?_ | refine ww_split _ ?_ ?_) <;> intro hc <;> try simp at hc) | (refine wp_drawF (by kernel_rfl) ?_) | refine wk_yldW _ ?_ | refine layOwe _ (by kernel_rfl) ?_ | refine owe ?_ (fun ho => ?_) | (simp (disch := first | assumption | omega | (simp; done) | (simp; omega)) [-getElem?_pos, gZ, gS]))
 all_goals first
  | (exfalso; omega)
  | skip
 refine wp_loopE cfg rfl (fun f0 h0 m fr h => ∃ i : Nat, ∃ fl : Fl, fr 0 = f0 0 ∧ fr 4 = R fl eI (iotaL i) ∧ fr 5 = .int .i64 i ∧ (App h.ts 1 fl) ∧ (i + m = L.length) ∧ (∀ j, j < i → 0 ≤ nth L j ∧ nth L j ≤ 2)) (L.length) _ _ ⟨0, (false, true, none), rfl, by first | rfl | (simp; done) | (simp [R]; done) | simp [R], by first | rfl | (simp; done) | (simp [R]; done) | simp [R], App.full _ _ _, by first | rfl | (simp; done) | omega, fun j hj => by omega⟩ ?_
 rintro Am Af Ah ⟨i, fl, A0, A4, A5, hap, hm, hok⟩ Aih
 try simp at A0
 by_cases hi : i < L.length
 ·have hst := iotaL_succ i
  have hln := iotaL_len i
  by_cases hq : 0 ≤ nth L i ∧ nth L i ≤ 2
  ·repeat' (first | ((first | refine wpc_split _ ?_ ?_ | refine ww_split _ ?_ ?_) <;> intro hc <;> try simp at hc) | (refine wp_drawF (by kernel_rfl) ?_) | refine wk_yldW _ ?_ | refine layOwe _ (by kernel_rfl) ?_ | refine owe ?_ (fun ho => ?_) | (simp (disch := first | assumption | omega | (simp; done) | (simp; omega)) [A0, A4, A5, eI, fold_I1, -getElem?_pos, gZ, gS]))
   all_goals first
    | (exfalso; omega)
    | exact Aih (Am - 1) _ _ (by omega) ⟨i + 1, _, by simp [A0, A4, A5, hst], by simp [A0, A4, A5, hst], by simp [A0, A4, A5, hst], App.new _ _ _, by omega, fun j hj => by (by_cases e : j = i; (subst e; exact hq); exact hok j (by omega))⟩
  ·have h2 := hbad i hi hq hl
   repeat' (first | ((first | refine wpc_split _ ?_ ?_ | refine ww_split _ ?_ ?_) <;> intro hc <;> try simp at hc) | (refine wp_drawF (by kernel_rfl) ?_) | refine wk_yldW _ ?_ | refine layOwe _ (by kernel_rfl) ?_ | refine owe ?_ (fun ho => ?_) | (simp (disch := first | assumption | omega | (simp; done) | (simp; omega)) [A0, A4, A5, eI, -getElem?_pos, gZ, gS]))
   all_goals first
    | (exfalso; omega)
    | (rw [h2]; exact ⟨rfl, rfl⟩)
 ·obtain rfl : i = L.length := by omega
  have h2 := hgood (fun j hj => hok j hj) hl
  have g1 : L.length < 1048576 := by omega
  have g2 := iotaL_len L.length
  have g3 := turnL_len (iotaL L.length) L 2
  have S1 := S82 (iotaL L.length) L 2 g1 g2
  have S2 := S82 (turnL (iotaL L.length) L 2) L 1 g1 g3
  repeat' (first | ((first | refine wpc_split _ ?_ ?_ | refine ww_split _ ?_ ?_) <;> intro hc <;> try simp at hc) | (refine wp_drawF (by kernel_rfl) ?_) | refine wk_yldW _ ?_ | refine layOwe _ (by kernel_rfl) ?_ | refine owe ?_ (fun ho => ?_) | (simp (disch := first | assumption | omega | (simp; done) | (simp; omega)) [A0, A4, A5, S1, S2, turn_turn, -getElem?_pos, gZ, gS]))
  rw [h2]; exact ⟨rfl, rfl⟩
@[simp] theorem S55 (L : List Int) (hs : L.length < 1099511627776) (q1 : Fl) (hh : Heap) : Ci cfg (.func (.func 55) [] []) [R  q1 eI L] hh = some (.ret (.tuple [R fl0 eI (ordS L).1, .int .i64 (ordS L).2]), hh) :=
 Ci_K cfg rfl rfl (by simp) (by simp) (C55 L hs)
end Go.Ab
