
import Derived.Test.YtigmnglnedcfpaaGreatDoorGr31
import Derived.Test.YtigmnglnedcfpaaGreatDoorGr32
set_option linter.unusedVariables false
set_option linter.unusedSimpArgs false
set_option linter.unusedSectionVars false
set_option linter.deprecated false
namespace Go.Ab
open Go.Proofs
set_option maxRecDepth 100000
set_option maxHeartbeats 4000000
theorem C5 (v : VwZ) (a b : List UInt8) (hs : smVw v) (hl : a.length < 1099511627776) (hl2 : b.length < 1099511627776) : Kc cfg 5 [.agg [.int .i64 v.no, .int .i64 v.lang, .int .i64 v.lines, .int .i64 v.room, .int .i64 v.cells, .int .i64 v.speed, .bool v.right, R fl0 eG v.font.gs, .int .i64 v.font.other, R fl0 eK v.font.ks, R fl0 eZ v.signs, .int .i64 v.scr.w, .int .i64 v.scr.h, R fl0 eQ v.scr.bl], .str a, .str b] (.ret (.bool true)) := by
 have hs1 := hs.1
 by_cases hlen : 20 < a.length ∨ 20 < b.length
 ·skip
  refine outS_of_wp cfg (fn := Tryz.f5) Tryz.func5 rfl (by simp [Tryz.f5]) ?_
  simp (config := { maxSteps := 2000000 }) (disch := first | assumption | omega | (simp; done) | (simp; omega)) [-getElem?_pos, gZ, gS, Tryz.f5, emptyH]
  repeat' (first | ((first | refine wpc_split _ ?_ ?_ | refine ww_split _ ?_ ?_) <;> intro hc <;> try simp at hc) | (refine wp_drawF (by kernel_rfl) ?_) | refine wk_yldW _ ?_ | refine layOwe _ (by kernel_rfl) ?_ | refine owe ?_ (fun ho => ?_) | (simp (config := { maxSteps := 2000000 }) (disch := first | assumption | omega | (simp; done) | (simp; omega)) [emptyH, -getElem?_pos, gZ, gS]))
  all_goals omega
 have hlab : (a ++ b).length < 1099511627776 := by rw [List.length_append]; omega
 cases hf : fewW v (a ++ b) with
 | false =>
  refine outS_of_wp cfg (fn := Tryz.f5) Tryz.func5 rfl (by simp [Tryz.f5]) ?_
  simp (config := { maxSteps := 2000000 }) (disch := first | assumption | omega | (simp; done) | (simp; omega)) [-getElem?_pos, gZ, gS, Tryz.f5, hs, hf, hlab, emptyH]
  repeat' (first | ((first | refine wpc_split _ ?_ ?_ | refine ww_split _ ?_ ?_) <;> intro hc <;> try simp at hc) | (refine wp_drawF (by kernel_rfl) ?_) | refine wk_yldW _ ?_ | refine layOwe _ (by kernel_rfl) ?_ | refine owe ?_ (fun ho => ?_) | (simp (config := { maxSteps := 2000000 }) (disch := first | assumption | omega | (simp; done) | (simp; omega)) [hs, hf, hlab, emptyH, -getElem?_pos, gZ, gS]))
  all_goals try omega
 | true =>
 cases hv : vwR v with
 | false =>
  refine outS_of_wp cfg (fn := Tryz.f5) Tryz.func5 rfl (by simp [Tryz.f5]) ?_
  simp (config := { maxSteps := 2000000 }) (disch := first | assumption | omega | (simp; done) | (simp; omega)) [-getElem?_pos, gZ, gS, Tryz.f5, hs, hf, hv, hlab, emptyH]
  repeat' (first | ((first | refine wpc_split _ ?_ ?_ | refine ww_split _ ?_ ?_) <;> intro hc <;> try simp at hc) | (refine wp_drawF (by kernel_rfl) ?_) | refine wk_yldW _ ?_ | refine layOwe _ (by kernel_rfl) ?_ | refine owe ?_ (fun ho => ?_) | (simp (config := { maxSteps := 2000000 }) (disch := first | assumption | omega | (simp; done) | (simp; omega)) [hs, hf, hv, hlab, emptyH, -getElem?_pos, gZ, gS]))
  all_goals try omega
 | true =>
 by_cases he : (runesG a).2 = 0
 ·by_cases he2 : (runesG b).2 = 0
  ·have hr := runesG_app he he2 (by omega)
   have hna := needW_ok hv he
   have hnb := needW_ok hv he2
   have hnab := needW_ok hv (s := a ++ b) (by rw [hr])
   rw [hr] at hnab
   obtain ⟨hs4, hr1⟩ := runesG_all he
   obtain ⟨ht4, hr2⟩ := runesG_all he2
   obtain ⟨hen, hpt⟩ := runes_enc' hr1
   obtain ⟨hen2, hpt2⟩ := runes_enc' hr2
   have hx1 := runes_len _ _ _ (Nat.le_refl _) hr1
   have hx2 := runes_len _ _ _ (Nat.le_refl _) hr2
   have hn1 := needW_bound hv (runesG a).1.length (by omega)
   have hn2 := needW_bound hv (runesG b).1.length (by omega)
   have hmul : v.speed * (((runesG a).1.length : Int) + ((runesG b).1.length : Int)) = v.speed * ((runesG a).1.length : Int) + v.speed * ((runesG b).1.length : Int) := Int.mul_add _ _ _
   simp only [List.length_append, Int.natCast_add, hmul] at hnab
   by_cases hc : v.cells = 0
   ·have hck := ((vwR_s hc).1 hv).2.2.1
    have hcg : (0 < v.cells) = False := eq_false (by omega)
    have hwa := widthW_s hv he hc
    have hwb := widthW_s hv he2 hc
    have hwab := widthW_s hv (s := a ++ b) (by rw [hr]) hc
    rw [hr] at hwab
    simp only at hwab
    have hba := wTo_bound hck (runesG a).1 (runesG a).1.length
    have hbb := wTo_bound hck (runesG b).1 (runesG b).1.length
    generalize hgl : (runesG a).1 = x at *
    generalize hgl2 : (runesG b).1 = y at *
    generalize hgA : v.speed * (x.length : Int) = la at *
    generalize hgB : v.speed * (y.length : Int) = lb at *
    by_cases ha : x = []
    ·subst ha
     have z0 : wTo v.font [] 0 = 0 := rfl
     have hla : la = 0 := by rw [← hgA]; simp
     rw [List.nil_append] at hwab
     simp only [List.length_nil, z0] at hwa
     refine outS_of_wp cfg (fn := Tryz.f5) Tryz.func5 rfl (by simp [Tryz.f5]) ?_
     simp (config := { maxSteps := 2000000 }) (disch := first | assumption | omega | (simp; done) | (simp; omega)) [-getElem?_pos, gZ, gS, Tryz.f5, hs, hf, hv, hlab, he, he2, hna, hnb, hnab, hwa, hwb, hwab, hgl, hgl2, hcg, hmul, emptyH]
     repeat' (first | ((first | refine wpc_split _ ?_ ?_ | refine ww_split _ ?_ ?_) <;> intro hc <;> try simp at hc) | (refine wp_drawF (by kernel_rfl) ?_) | refine wk_yldW _ ?_ | refine layOwe _ (by kernel_rfl) ?_ | refine owe ?_ (fun ho => ?_) | (simp (config := { maxSteps := 2000000 }) (disch := first | assumption | omega | (simp; done) | (simp; omega)) [hs, hf, hv, hlab, he, he2, hna, hnb, hnab, hwa, hwb, hwab, hgl, hgl2, hcg, hmul, emptyH, -getElem?_pos, gZ, gS]))
     all_goals try omega
    ·by_cases hb : y = []
     ·subst hb
      have z0 : wTo v.font [] 0 = 0 := rfl
      have hlb : lb = 0 := by rw [← hgB]; simp
      rw [List.append_nil] at hwab
      simp only [List.length_nil, z0] at hwb
      refine outS_of_wp cfg (fn := Tryz.f5) Tryz.func5 rfl (by simp [Tryz.f5]) ?_
      simp (config := { maxSteps := 2000000 }) (disch := first | assumption | omega | (simp; done) | (simp; omega)) [-getElem?_pos, gZ, gS, Tryz.f5, hs, hf, hv, hlab, he, he2, hna, hnb, hnab, hwa, hwb, hwab, hgl, hgl2, hcg, hmul, ha, emptyH]
      repeat' (first | ((first | refine wpc_split _ ?_ ?_ | refine ww_split _ ?_ ?_) <;> intro hc <;> try simp at hc) | (refine wp_drawF (by kernel_rfl) ?_) | refine wk_yldW _ ?_ | refine layOwe _ (by kernel_rfl) ?_ | refine owe ?_ (fun ho => ?_) | (simp (config := { maxSteps := 2000000 }) (disch := first | assumption | omega | (simp; done) | (simp; omega)) [hs, hf, hv, hlab, he, he2, hna, hnb, hnab, hwa, hwb, hwab, hgl, hgl2, hcg, hmul, ha, emptyH, -getElem?_pos, gZ, gS]))
      all_goals try omega
     ·have happ := wTo_app (f := v.font) ha hb
      rw [happ] at hwab
      have hal := List.length_pos_iff.2 ha
      have hbl := List.length_pos_iff.2 hb
      have h4 : (((x.length : Int) - 1).toNat) = x.length - 1 := by omega
      have p1 := pt_nth hpt (i := x.length - 1) (by omega)
      have p2 := pt_nth hpt2 (i := 0) hbl
      have e2 := w2 v.font (nth x (x.length - 1)) (nth y 0)
      have e1 := w1 v.font (nth x (x.length - 1))
      have e0 := w1 v.font (nth y 0)
      have b1 := oneS_bound hck (nth x (x.length - 1))
      have b2 := oneS_bound hck (nth y 0)
      have b3 := nearS_bound hck (nth x (x.length - 1)) (nth y 0)
      have hdr : x.drop (x.length - 1) = [nth x (x.length - 1)] := by rw [nth_drop (by omega), List.drop_eq_nil_of_le (by omega)]
      have htk : y.take 1 = [nth y 0] := by
       have := nth_take (l := y) (i := 0) hbl
       simpa using this
      generalize hgx : nth x (x.length - 1) = r at *
      generalize hgy : nth y 0 = u at *
      have q2 : ([r, u] : List Int).all point = true := by simp [p1, p2]
      have q1 : ([r] : List Int).all point = true := by simp [p1]
      have q0 : ([u] : List Int).all point = true := by simp [p2]
      have g2 := enc2l r u
      have g1 := enc1l r
      have g0 := enc1l u
      have j1 := joinG_part q1 g1
      have j0 := joinG_part q0 g0
      have v1 := widthS_enc hck q1 g1
      have v0 := widthS_enc hck q0 g0
      have v2 := widthS_enc hck q2 g2
      have hsp : encAll [r, u] = encAll [r] ++ encAll [u] := encAll_append [r] [u]
      rw [hsp] at v2
      simp only [List.length_cons, List.length_nil, Nat.zero_add, e1, e0, e2] at v1 v0 v2
      have hk1 : (encAll [r]).length < 1099511627776 := by omega
      have hk0 : (encAll [u]).length < 1099511627776 := by omega
      have hk2 : (encAll [r] ++ encAll [u]).length < 1099511627776 := by rw [List.length_append]; omega
      generalize hz1 : encAll [r] = zr at *
      generalize hz0 : encAll [u] = zu at *
      refine outS_of_wp cfg (fn := Tryz.f5) Tryz.func5 rfl (by simp [Tryz.f5]) ?_
      simp (config := { maxSteps := 2000000 }) (disch := first | assumption | omega | (simp; done) | (simp; omega)) [-getElem?_pos, gZ, gS, Tryz.f5, hs, hf, hv, hlab, he, he2, hna, hnb, hnab, hwa, hwb, hwab, hgl, hgl2, hcg, hmul, ha, hb, emptyH]
      repeat' (first | ((first | refine wpc_split _ ?_ ?_ | refine ww_split _ ?_ ?_) <;> intro hc <;> try simp at hc) | (refine wp_drawF (by kernel_rfl) ?_) | refine wk_yldW _ ?_ | refine layOwe _ (by kernel_rfl) ?_ | refine owe ?_ (fun ho => ?_) | (simp (config := { maxSteps := 2000000 }) (disch := first | assumption | omega | (simp; done) | (simp; omega)) [hs, hf, hv, hlab, he, he2, hna, hnb, hnab, hwa, hwb, hwab, hgl, hgl2, hcg, hmul, ha, hb, emptyH, eI, h4, fold_I1, j1, j0, v1, v0, v2, hgx, hgy, hdr, htk, -getElem?_pos, gZ, gS]))
      all_goals try omega
   ·have hcb := ((vwR_c hc).1 hv).2.1
    rw [inB_t] at hcb
    have hcg : (0 < v.cells) = True := eq_true (by omega)
    have hwc := width_cells hv he he2 hc (by omega) (by omega)
    generalize hgl : (runesG a).1 = x at *
    generalize hgl2 : (runesG b).1 = y at *
    generalize hgA : v.speed * (x.length : Int) = la at *
    generalize hgB : v.speed * (y.length : Int) = lb at *
    rcases hwc with hw | hw | ⟨wa, wb, wz, hwa, hwb, hwz, c1, c2, c3, c4, c5, c6⟩
    ·generalize hw2 : widthW v b = w2 at *
     generalize hw3 : widthW v (a ++ b) = w3 at *
     refine outS_of_wp cfg (fn := Tryz.f5) Tryz.func5 rfl (by simp [Tryz.f5]) ?_
     simp (config := { maxSteps := 2000000 }) (disch := first | assumption | omega | (simp; done) | (simp; omega)) [-getElem?_pos, gZ, gS, Tryz.f5, hs, hf, hv, hlab, he, he2, hna, hnb, hnab, hw, hw2, hw3, hgl, hgl2, hcg, hmul, emptyH]
     repeat' (first | ((first | refine wpc_split _ ?_ ?_ | refine ww_split _ ?_ ?_) <;> intro hc <;> try simp at hc) | (refine wp_drawF (by kernel_rfl) ?_) | refine wk_yldW _ ?_ | refine layOwe _ (by kernel_rfl) ?_ | refine owe ?_ (fun ho => ?_) | (simp (config := { maxSteps := 2000000 }) (disch := first | assumption | omega | (simp; done) | (simp; omega)) [hs, hf, hv, hlab, he, he2, hna, hnb, hnab, hw, hw2, hw3, hgl, hgl2, hcg, hmul, emptyH, -getElem?_pos, gZ, gS]))
     all_goals try omega
    ·generalize hw2 : widthW v a = w2 at *
     generalize hw3 : widthW v (a ++ b) = w3 at *
     refine outS_of_wp cfg (fn := Tryz.f5) Tryz.func5 rfl (by simp [Tryz.f5]) ?_
     simp (config := { maxSteps := 2000000 }) (disch := first | assumption | omega | (simp; done) | (simp; omega)) [-getElem?_pos, gZ, gS, Tryz.f5, hs, hf, hv, hlab, he, he2, hna, hnb, hnab, hw, hw2, hw3, hgl, hgl2, hcg, hmul, emptyH]
     repeat' (first | ((first | refine wpc_split _ ?_ ?_ | refine ww_split _ ?_ ?_) <;> intro hc <;> try simp at hc) | (refine wp_drawF (by kernel_rfl) ?_) | refine wk_yldW _ ?_ | refine layOwe _ (by kernel_rfl) ?_ | refine owe ?_ (fun ho => ?_) | (simp (config := { maxSteps := 2000000 }) (disch := first | assumption | omega | (simp; done) | (simp; omega)) [hs, hf, hv, hlab, he, he2, hna, hnb, hnab, hw, hw2, hw3, hgl, hgl2, hcg, hmul, emptyH, -getElem?_pos, gZ, gS]))
     all_goals try omega
    ·skip
     refine outS_of_wp cfg (fn := Tryz.f5) Tryz.func5 rfl (by simp [Tryz.f5]) ?_
     simp (config := { maxSteps := 2000000 }) (disch := first | assumption | omega | (simp; done) | (simp; omega)) [-getElem?_pos, gZ, gS, Tryz.f5, hs, hf, hv, hlab, he, he2, hna, hnb, hnab, hwa, hwb, hwz, hgl, hgl2, hcg, hmul, emptyH]
     repeat' (first | ((first | refine wpc_split _ ?_ ?_ | refine ww_split _ ?_ ?_) <;> intro hc <;> try simp at hc) | (refine wp_drawF (by kernel_rfl) ?_) | refine wk_yldW _ ?_ | refine layOwe _ (by kernel_rfl) ?_ | refine owe ?_ (fun ho => ?_) | (simp (config := { maxSteps := 2000000 }) (disch := first | assumption | omega | (simp; done) | (simp; omega)) [hs, hf, hv, hlab, he, he2, hna, hnb, hnab, hwa, hwb, hwz, hgl, hgl2, hcg, hmul, emptyH, -getElem?_pos, gZ, gS]))
     all_goals try omega
  ·skip
   refine outS_of_wp cfg (fn := Tryz.f5) Tryz.func5 rfl (by simp [Tryz.f5]) ?_
   simp (config := { maxSteps := 2000000 }) (disch := first | assumption | omega | (simp; done) | (simp; omega)) [-getElem?_pos, gZ, gS, Tryz.f5, hs, hf, hv, hlab, he, he2, emptyH]
   repeat' (first | ((first | refine wpc_split _ ?_ ?_ | refine ww_split _ ?_ ?_) <;> intro hc <;> try simp at hc) | (refine wp_drawF (by kernel_rfl) ?_) | refine wk_yldW _ ?_ | refine layOwe _ (by kernel_rfl) ?_ | refine owe ?_ (fun ho => ?_) | (simp (config := { maxSteps := 2000000 }) (disch := first | assumption | omega | (simp; done) | (simp; omega)) [hs, hf, hv, hlab, he, he2, emptyH, -getElem?_pos, gZ, gS]))
   all_goals try omega
 ·skip
  refine outS_of_wp cfg (fn := Tryz.f5) Tryz.func5 rfl (by simp [Tryz.f5]) ?_
  simp (config := { maxSteps := 2000000 }) (disch := first | assumption | omega | (simp; done) | (simp; omega)) [-getElem?_pos, gZ, gS, Tryz.f5, hs, hf, hv, hlab, he, emptyH]
  repeat' (first | ((first | refine wpc_split _ ?_ ?_ | refine ww_split _ ?_ ?_) <;> intro hc <;> try simp at hc) | (refine wp_drawF (by kernel_rfl) ?_) | refine wk_yldW _ ?_ | refine layOwe _ (by kernel_rfl) ?_ | refine owe ?_ (fun ho => ?_) | (simp (config := { maxSteps := 2000000 }) (disch := first | assumption | omega | (simp; done) | (simp; omega)) [hs, hf, hv, hlab, he, emptyH, -getElem?_pos, gZ, gS]))
  all_goals try omega
@[simp] theorem S5 (v : VwZ) (a b : List UInt8) (hs : smVw v) (hl : a.length < 1099511627776) (hl2 : b.length < 1099511627776) (q1 q2 q3 q4 : Fl) (hh : Heap) : Ci cfg (.func (.func 5) [] []) [.agg [.int .i64 v.no, .int .i64 v.lang, .int .i64 v.lines, .int .i64 v.room, .int .i64 v.cells, .int .i64 v.speed, .bool v.right, R  q1 eG v.font.gs, .int .i64 v.font.other, R  q2 eK v.font.ks, R  q3 eZ v.signs, .int .i64 v.scr.w, .int .i64 v.scr.h, R  q4 eQ v.scr.bl], .str a, .str b] hh = some (.ret (.bool true), hh) :=
 Ci_K cfg rfl rfl (by simp) (by simp) (C5 v a b hs hl hl2)
end Go.Ab
