/- A part of the proof. -/
import Derived.Test.YtlmhbemgaikmaaaGreatDoorGr33
import Derived.Test.YtlmhbemgaikmaaaGreatDoorGr35
import Derived.Test.YtlmhbemgaikmaaaGreatDoorGr26
import Derived.Test.YtlmhbemgaikmaaaGreatDoorGr28
import Derived.Test.YtlmhbemgaikmaaaGreatDoorGr29
import Derived.Test.YtlmhbemgaikmaaaGreatDoorGr30
import Derived.Test.YtlmhbemgaikmaaaGreatDoorK13
import Derived.Test.YtlmhbemgaikmaaaGreatDoorGr25
set_option linter.unusedVariables false
set_option linter.unusedSimpArgs false
set_option linter.unusedSectionVars false
set_option linter.deprecated false
namespace Go.Ab
open Go.Proofs
set_option maxRecDepth 100000
set_option maxHeartbeats 4000000
def roomT (v : VwZ) : Int := if 0 < v.cells then v.cells else v.room
def okT (v : VwZ) (w : List UInt8) : Bool := decide ((widthW v w).2 = 0 ∧ 1 ≤ (widthW v w).1 ∧ (widthW v w).1 ≤ roomT v)
def spT (v : VwZ) : Bool := decide ((widthW v [32]).2 = 0 ∧ 0 ≤ (widthW v [32]).1 ∧ (widthW v [32]).1 ≤ 1048576 ∧ roomT v ≤ 1048576)
def wdL (v : VwZ) (ws : List (List UInt8)) : List Int := ws.map fun w => (widthW v w).1
def widT (v : VwZ) (ws : List (List UInt8)) : List Int × Int × Int × Bool := if spT v = true ∧ ws.all (okT v) = true then (wdL v ws, (widthW v [32]).1, roomT v, true) else ([], 0, 0, false)
theorem widT_no {v : VwZ} {ws : List (List UInt8)} {i : Nat} (hi : i < ws.length) (h : okT v (nth ws i) = false) : widT v ws = ([], 0, 0, false) := by
 unfold widT
 rw [if_neg]
 rintro ⟨_, h2⟩
 rw [List.all_eq_true] at h2
 rw [h2 _ (nth_mem hi)] at h; cases h
theorem C8 (v : VwZ) (ws : List (List UInt8)) (hs : smVw v) (hn : ws.length ≤ 8) (hw : ∀ x ∈ ws, x.length < 1099511627776) : Kc cfg 8 [.agg [.int .i64 v.no, .int .i64 v.lang, .int .i64 v.lines, .int .i64 v.room, .int .i64 v.cells, .int .i64 v.speed, .bool v.right, R fl0 eG v.font.gs, .int .i64 v.font.other, R fl0 eK v.font.ks, R fl0 eZ v.signs, .int .i64 v.scr.w, .int .i64 v.scr.h, R fl0 eQ v.scr.bl], R fl0 eS ws] (.ret (.tuple [R fl0 eI (widT v ws).1, .int .i64 (widT v ws).2.1, .int .i64 (widT v ws).2.2.1, .bool (widT v ws).2.2.2])) := by
 have hnl : ws.length < 1099511627776 := by omega
 have hrm : (0 < v.cells → roomT v = v.cells) ∧ (¬ 0 < v.cells → roomT v = v.room) := ⟨fun h => if_pos h, fun h => if_neg h⟩
 have hsp : spT v = decide ((widthW v [32]).2 = 0 ∧ 0 ≤ (widthW v [32]).1 ∧ (widthW v [32]).1 ≤ 1048576 ∧ roomT v ≤ 1048576) := rfl
 have hW : widT v ws = if spT v = true ∧ ws.all (okT v) = true then (wdL v ws, (widthW v [32]).1, roomT v, true) else ([], 0, 0, false) := rfl
 have hok := fun w => show okT v w = decide ((widthW v w).2 = 0 ∧ 1 ≤ (widthW v w).1 ∧ (widthW v w).1 ≤ roomT v) from rfl
 have hno := fun i hi => widT_no (v := v) (ws := ws) (i := i) hi
 generalize hWT : widT v ws = WT at *
 generalize hRT : roomT v = RT at *
 generalize hS : widthW v [32] = sp at *
 obtain ⟨S, e⟩ := sp
 simp only at hsp hW
 by_cases hgood : e = 0 ∧ 0 ≤ S ∧ S ≤ 1048576 ∧ RT ≤ 1048576
 ·rw [decide_eq_true hgood] at hsp
  obtain ⟨rfl, g1, g2, g3⟩ := hgood
  have hcc : ∃ r, r = RT ∧ ((0 < v.cells) = True ∧ v.cells = RT ∨ (0 < v.cells) = False ∧ v.room = RT) := by
   refine ⟨RT, rfl, ?_⟩
   by_cases h : 0 < v.cells
   ·exact .inl ⟨eq_true h, (hrm.1 h).symm⟩
   ·exact .inr ⟨eq_false h, (hrm.2 h).symm⟩
  obtain ⟨_, _, hcc⟩ := hcc
  rcases hcc with ⟨hcl, hrt⟩ | ⟨hcl, hrt⟩
  all_goals
   subst hrt
   refine outS_of_wp cfg (fn := Tryz.f8) Tryz.func8 rfl (by simp [Tryz.f8]) ?_
   simp (disch := first|exact DD|fail) [-getElem?_pos, gZ, gS, Tryz.f8, emptyH, hcl, hs, hS]
   repeat' (first|((first|refine wA ?_ ?_|refine wB ?_ ?_)<;>intro hc<;>try simp at hc)|refine wF ?_|refine wY ?_|refine wL ?_|refine owe ?_ fun ho=>?_|(simp (disch := first|exact DD|fail) [emptyH, hs, hS, hcl, -getElem?_pos, gZ, gS]))
   all_goals try (exfalso; omega)
   refine wp_loopE cfg rfl (fun f0 h0 m fr h => ∃ i : Nat, ∃ q : Fl, fr 2 = f0 2 ∧ fr 5 = f0 5 ∧ fr 6 = f0 6 ∧ fr 39 = f0 39 ∧ fr 40 = f0 40 ∧ fr 41 = .int .i64 i ∧ fr 4 = R q eI (wdL v (ws.take i)) ∧ h.bs = h0.bs ∧ (App h.ts 1 q) ∧ ((ws.take i).all (okT v) = true) ∧ (i + m = ws.length)) (ws.length) _ _ ⟨0, (true, true, none), rfl, rfl, rfl, rfl, rfl, by first | rfl | (simp; done) | (simp [R]; done) | simp [R], by first | rfl | (simp; done) | (simp [R]; done) | simp [R], rfl, App.nil _ _ _, by first | rfl | (simp; done) | omega, by first | rfl | (simp; done) | omega⟩ ?_
   rintro Am Af Ah ⟨i, q, A2, A5, A6, A39, A40, A41, A4, Abs, hap, hall, hm⟩ Aih
   try simp at A2 A5 A6 A39 A40 Abs
   by_cases hi : i < ws.length
   ·have hnw := hw _ (nth_mem hi)
    have hokw := hok (nth ws i)
    have hwt : wdL v (ws.take (i + 1)) = wdL v (ws.take i) ++ [(widthW v (nth ws i)).1] := by unfold wdL; rw [nth_take hi, List.map_append]; rfl
    have hlen : (wdL v (ws.take i)).length ≤ 8 := by simp [wdL]; omega
    cases hb : okT v (nth ws i) with
    | true =>
     rw [hb] at hokw
     obtain ⟨b0, b1, b2⟩ := of_decide_eq_true hokw.symm
     have hall2 := all_take_next (p := okT v) hi hall hb
     repeat' (first|((first|refine wA ?_ ?_|refine wB ?_ ?_)<;>intro hc<;>try simp at hc)|refine wF ?_|refine wY ?_|refine wL ?_|refine owe ?_ fun ho=>?_|(simp (disch := first|exact DD|fail) [A2, A5, A6, A39, A40, A41, A4, Abs, eS, hs, Abs, b0, fold_I1, -getElem?_pos, gZ, gS]))
     all_goals try (exfalso; omega)
     exact Aih (Am - 1) _ _ (by omega) ⟨i + 1, (false, false, some Ah.ts.length), by simp [A2, A5, A6, A39, A40, A41, A4, Abs, Abs, hwt], by simp [A2, A5, A6, A39, A40, A41, A4, Abs, Abs, hwt], by simp [A2, A5, A6, A39, A40, A41, A4, Abs, Abs, hwt], by simp [A2, A5, A6, A39, A40, A41, A4, Abs, Abs, hwt], by simp [A2, A5, A6, A39, A40, A41, A4, Abs, Abs, hwt], by simp [A2, A5, A6, A39, A40, A41, A4, Abs, Abs, hwt], by simp [A2, A5, A6, A39, A40, A41, A4, Abs, Abs, hwt], by simp [A2, A5, A6, A39, A40, A41, A4, Abs, Abs, hwt], App.new _ _ _, hall2, by omega⟩
    | false =>
     rw [hb] at hokw
     have hokw := of_decide_eq_false hokw.symm
     have hWn := hno i hi hb
     subst hWn
     repeat' (first|((first|refine wA ?_ ?_|refine wB ?_ ?_)<;>intro hc<;>try simp at hc)|refine wF ?_|refine wY ?_|refine wL ?_|refine owe ?_ fun ho=>?_|(simp (disch := first|exact DD|fail) [A2, A5, A6, A39, A40, A41, A4, Abs, eS, hs, Abs, -getElem?_pos, gZ, gS]))
     all_goals first
      | rfl
      | (exfalso; omega)
   ·have ht : ws.take i = ws := List.take_of_length_le (by omega)
    rw [ht] at hall A4
    rw [if_pos ⟨hsp, hall⟩] at hW
    subst hW
    repeat' (first|((first|refine wA ?_ ?_|refine wB ?_ ?_)<;>intro hc<;>try simp at hc)|refine wF ?_|refine wY ?_|refine wL ?_|refine owe ?_ fun ho=>?_|(simp (disch := first|exact DD|fail) [A2, A5, A6, A39, A40, A41, A4, Abs, -getElem?_pos, gZ, gS]))
 ·rw [decide_eq_false hgood] at hsp
  rw [if_neg (by rw [hsp]; simp)] at hW
  subst hW
  have hS1 : (widthW v [32]).1 = S := by rw [hS]
  have hS2 : (widthW v [32]).2 = e := by rw [hS]
  by_cases hc : 0 < v.cells
  ·have hrt := hrm.1 hc
   refine outS_of_wp cfg (fn := Tryz.f8) Tryz.func8 rfl (by simp [Tryz.f8]) ?_
   simp (disch := first|exact DD|fail) [-getElem?_pos, gZ, gS, Tryz.f8, emptyH, hs, hS, hc]
   repeat' (first|((first|refine wA ?_ ?_|refine wB ?_ ?_)<;>intro hc<;>try simp at hc)|refine wF ?_|refine wY ?_|refine wL ?_|refine owe ?_ fun ho=>?_|(simp (disch := first|exact DD|fail) [emptyH, hs, hS, hc, -getElem?_pos, gZ, gS]))
   all_goals first
    | rfl
    | (exfalso; omega)
  ·have hrt := hrm.2 hc
   refine outS_of_wp cfg (fn := Tryz.f8) Tryz.func8 rfl (by simp [Tryz.f8]) ?_
   simp (disch := first|exact DD|fail) [-getElem?_pos, gZ, gS, Tryz.f8, emptyH, hs, hS, hc]
   repeat' (first|((first|refine wA ?_ ?_|refine wB ?_ ?_)<;>intro hc<;>try simp at hc)|refine wF ?_|refine wY ?_|refine wL ?_|refine owe ?_ fun ho=>?_|(simp (disch := first|exact DD|fail) [emptyH, hs, hS, hc, -getElem?_pos, gZ, gS]))
   all_goals first
    | rfl
    | (exfalso; omega)
@[simp] theorem S8 (v : VwZ) (ws : List (List UInt8)) (hs : smVw v) (hn : ws.length ≤ 8) (hw : ∀ x ∈ ws, x.length < 1099511627776) (q1 q2 q3 q4 q5 : Fl) (hh : Heap) : Ci cfg (.func (.func 8) [] []) [.agg [.int .i64 v.no, .int .i64 v.lang, .int .i64 v.lines, .int .i64 v.room, .int .i64 v.cells, .int .i64 v.speed, .bool v.right, R  q1 eG v.font.gs, .int .i64 v.font.other, R  q2 eK v.font.ks, R  q3 eZ v.signs, .int .i64 v.scr.w, .int .i64 v.scr.h, R  q4 eQ v.scr.bl], R  q5 eS ws] hh = some (.ret (.tuple [R fl0 eI (widT v ws).1, .int .i64 (widT v ws).2.1, .int .i64 (widT v ws).2.2.1, .bool (widT v ws).2.2.2]), hh) :=
 Ci_K cfg rfl rfl (by simp) (by simp) (C8 v ws hs hn hw)
end Go.Ab
namespace Go.Ab
open Go.Proofs
set_option maxRecDepth 100000
set_option maxHeartbeats 8000000
def eW (x : Int) : List V := [.int .u16 x]
instance : EncC eW 1 := ⟨fun _ => rfl, by decide, fun _ => rfl, fun _ => rfl, fun _ => rfl⟩
theorem Gnil : Kc cfg 4 [.row false false [] 0 none, .row false false [] 0 none, .int .i64 0, .int .i64 0] (.ret (.tuple [.row false false [] 0 none, .int .i64 0, .int .i64 480])) := kc_run (n := 40) (by kernel_rfl)
theorem Snil (h : Heap) : Ci cfg (.func (.func 4) [] []) [.row true true [] 0 none, .row true true [] 0 none, .int .i64 0, .int .i64 0] h = some (.ret (.tuple [.row false false [] 0 none, .int .i64 0, .int .i64 480]), h) :=
 Ci_K cfg rfl rfl (by simp [V.closed.closedL, V.closed]) (by simp [V.norm.normL, V.norm]) Gnil
theorem Sjoin (h : Heap) (q : Fl) (l : List (List UInt8)) (sep : List UInt8) (h1 : l ≠ []) (h2 : l.length ≤ 1000000) (h3 : (joinB l sep).length ≤ 1000000) : Ci cfg (.func (.func 12) [] []) [R q eS l, .str sep] h = some (.ret (.str (joinB l sep)), h) := by
 refine Ci_ext rfl (by simp [V.closed.closedL, V.closed]) ?_
 show extE 12 (V.norm.normL [R q eS l, V.str sep]) = _
 unfold extE
 rw [if_pos rfl]
 have e : V.norm.normL [R q eS l, V.str sep] = [.row false false (rows eS l) l.length none, .str sep] := by simp [V.norm.normL, V.norm, R]
 rw [e]
 unfold joinR
 simp only [strsOf_rows]
 rw [if_pos ⟨trivial, h1, h2, h3⟩]
theorem word_ok {s : List UInt8} (h : wordS s = true) : (runesG s).2 = 0 ∧ 1 ≤ s.length ∧ s.length ≤ 64 := by
 unfold wordS at h
 rw [Bool.and_eq_true] at h
 obtain ⟨h1, h2⟩ := h
 have h1 := of_decide_eq_true h1
 refine ⟨?_, by omega, by omega⟩
 cases hr : runes s with
 | none => rw [hr] at h2; cases h2
 | some l => rw [runesG_some (by omega) hr]
theorem room_pos {v : VwZ} (hv : vwR v = true) : 1 ≤ roomT v := by
 unfold roomT
 by_cases hc : v.cells = 0
 ·rw [if_neg (by omega)]
  exact (inB_t.1 ((vwR_s hc).1 hv).2.1).1
 ·have := vw_cells hv hc
  rw [if_pos (by omega)]; omega
theorem vw_lines {v : VwZ} (hv : vwR v = true) : 1 ≤ v.lines ∧ v.lines ≤ 8 := by
 have h1 : baseB v = true := by
  cases hb : baseB v with
  | true => rfl
  | false => rw [vwR_base hb] at hv; cases hv
 exact inB_t.1 (baseB_t.1 h1).2.2.1
theorem wid_ok {v : VwZ} {ws : List (List UInt8)} (hv : vwR v = true) (hn : ws.length ≤ 8) (h : (widT v ws).2.2.2 = true) :
  ∃ W S, widT v ws = (W, S, roomT v, true) ∧ W.length = ws.length ∧ wOk W S (roomT v) ∧ wdsT v ws W S := by
 unfold widT at h ⊢
 by_cases hc : spT v = true ∧ ws.all (okT v) = true
 ·rw [if_pos hc]
  obtain ⟨s1, s2, s3, s4⟩ := of_decide_eq_true hc.1
  have hl : (wdL v ws).length = ws.length := by simp [wdL]
  have hat : ∀ i, i < ws.length → nth (wdL v ws) i = (widthW v (nth ws i)).1 := fun i hi => by rw [nth_eq (by omega)]; simp [wdL, nth_eq hi]
  have hok : ∀ i, i < ws.length → (widthW v (nth ws i)).2 = 0 ∧ 1 ≤ (widthW v (nth ws i)).1 ∧ (widthW v (nth ws i)).1 ≤ roomT v := fun i hi => of_decide_eq_true (List.all_eq_true.1 hc.2 _ (nth_mem hi))
  refine ⟨_, _, rfl, hl, ⟨by omega, s2, s3, room_pos hv, s4, fun i hi => ?_⟩, hl, Prod.ext rfl s1, fun i hi => Prod.ext ?_ (hok i hi).1⟩
  ·rw [hat i (by omega)]; exact (hok i (by omega)).2
  ·exact (hat i hi).symm
 ·rw [if_neg hc] at h; cases h
structure LnsOk (Rd Nd : List Int) (t : Int) (j : Nat) : Prop where
 l1 : Rd.length = j
 l2 : Nd.length = j
 t0 : 0 ≤ t ∧ t ≤ 65535 * (j : Int)
 rd : ∀ i, i < j → (0 ≤ nth Rd i ∧ nth Rd i ≤ t) ∧ 0 ≤ nth Nd i ∧ nth Nd i ≤ 1073741824
 ro : ∀ i, i + 1 < j → nth Rd i ≤ nth Rd (i + 1)
theorem LnsOk.none : LnsOk [] [] 0 0 := ⟨rfl, rfl, ⟨Int.le_refl _, Int.le_refl _⟩, fun i h => by omega, fun i h => by omega⟩
theorem LnsOk.next {Rd Nd : List Int} {t t' m : Int} {j : Nat} (h : LnsOk Rd Nd t j) (h1 : t ≤ t') (h2 : t' ≤ t + 65535) (h3 : 0 ≤ m ∧ m ≤ 1073741824) : LnsOk (Rd ++ [t']) (Nd ++ [m]) t' (j + 1) := by
 have h0 := h.t0
 refine ⟨by simp [h.l1], by simp [h.l2], by omega, fun i hi => ?_, fun i hi => ?_⟩
 ·by_cases e : i < j
  ·rw [nth_append_left (by rw [h.l1]; exact e), nth_append_left (by rw [h.l2]; exact e)]
   have := h.rd i e; omega
  ·obtain rfl : i = j := by omega
   rw [nth_append_right (by rw [h.l1]; exact Nat.le_refl _), nth_append_right (by rw [h.l2]; exact Nat.le_refl _), h.l1, h.l2, Nat.sub_self]
   simp only [nth_zero]; omega
 ·by_cases e : i + 1 < j
  ·rw [nth_append_left (by rw [h.l1]; omega), nth_append_left (by rw [h.l1]; exact e)]
   exact h.ro i e
  ·rw [nth_append_left (by rw [h.l1]; omega), nth_append_right (by rw [h.l1]; omega), h.l1, show i + 1 - j = 0 by omega]
   have := h.rd i (by omega)
   simp only [nth_zero]; omega
theorem LnsOk.q {Rd Nd : List Int} {t m f : Int} {j : Nat} (h : LnsOk Rd Nd t j) (hj : j ≤ 8) (hm : 1 ≤ m ∧ m ≤ 8) (hf : 0 ≤ f ∧ f ≤ 65535) : qOk ⟨Rd, Nd, m, f⟩ := by
 have h0 := h.t0
 have h1 := h.l1
 have h2 := h.l2
 refine ⟨show Rd.length ≤ 64 by omega, show Nd.length = Rd.length by omega, hm.1, hm.2, hf.1, show f ≤ 1073741824 by omega, fun i hi => ?_, fun i hi => ?_⟩
 ·have := h.rd i (by simp only at hi; omega)
  simp only; omega
 ·exact h.ro i (by simp only at hi; omega)
theorem C3 (v : VwZ) (ws : List (List UInt8)) (gaps : List Int) (flip : Int) (other : List Int) (hs : smVw v) (hwl : ∀ x ∈ ws, x.length < 1099511627776) (hwn : ws.length < 1099511627776) (hgn : gaps.length < 1099511627776) (hon : other.length < 1099511627776) (hg : ∀ x ∈ gaps, 0 ≤ x ∧ x ≤ 65535) (hf : 0 ≤ flip ∧ flip ≤ 65535) (ho : ∀ x ∈ other, 0 ≤ x ∧ x ≤ 255) : Kc cfg 3 [.agg [.int .i64 v.no, .int .i64 v.lang, .int .i64 v.lines, .int .i64 v.room, .int .i64 v.cells, .int .i64 v.speed, .bool v.right, R fl0 eG v.font.gs, .int .i64 v.font.other, R fl0 eK v.font.ks, R fl0 eZ v.signs, .int .i64 v.scr.w, .int .i64 v.scr.h, R fl0 eQ v.scr.bl], R fl0 eS ws, R fl0 eW gaps, .int .u16 flip, R fl0 eU other] (.ret (.bool true)) := by
 by_cases hn : 8 < ws.length
 ·skip
  refine outS_of_wp cfg (fn := Tryz.f3) Tryz.func3 rfl (by simp [Tryz.f3]) ?_
  simp (disch := first|exact DD|fail) [-getElem?_pos, gZ, gS, Tryz.f3, Snil, hs, emptyH]
  repeat' (first|((first|refine wA ?_ ?_|refine wB ?_ ?_)<;>intro hc<;>try simp at hc)|refine wF ?_|refine wY ?_|refine wL ?_|refine owe ?_ fun ho=>?_|(simp (disch := first|exact DD|fail) [Snil, hs, emptyH, -getElem?_pos, gZ, gS]))
  all_goals try (exfalso; omega)
 cases hfw : fewW v [] with
 | false =>
  refine outS_of_wp cfg (fn := Tryz.f3) Tryz.func3 rfl (by simp [Tryz.f3]) ?_
  simp (disch := first|exact DD|fail) [-getElem?_pos, gZ, gS, Tryz.f3, Snil, hs, hfw, emptyH]
  repeat' (first|((first|refine wA ?_ ?_|refine wB ?_ ?_)<;>intro hc<;>try simp at hc)|refine wF ?_|refine wY ?_|refine wL ?_|refine owe ?_ fun ho=>?_|(simp (disch := first|exact DD|fail) [Snil, hs, hfw, emptyH, -getElem?_pos, gZ, gS]))
  all_goals try (exfalso; omega)
 | true =>
 cases hv : vwR v with
 | false =>
  have hE : vwE v = 450 := by unfold vwE; rw [hv]; rfl
  refine outS_of_wp cfg (fn := Tryz.f3) Tryz.func3 rfl (by simp [Tryz.f3]) ?_
  simp (disch := first|exact DD|fail) [-getElem?_pos, gZ, gS, Tryz.f3, Snil, hs, hfw, hE, emptyH]
  repeat' (first|((first|refine wA ?_ ?_|refine wB ?_ ?_)<;>intro hc<;>try simp at hc)|refine wF ?_|refine wY ?_|refine wL ?_|refine owe ?_ fun ho=>?_|(simp (disch := first|exact DD|fail) [Snil, hs, hfw, hE, emptyH, -getElem?_pos, gZ, gS]))
  all_goals try (exfalso; omega)
 | true =>
 have hE : vwE v = 0 := by unfold vwE; rw [hv]; rfl
 refine outS_of_wp cfg (fn := Tryz.f3) Tryz.func3 rfl (by simp [Tryz.f3]) ?_
 simp (disch := first|exact DD|fail) [-getElem?_pos, gZ, gS, Tryz.f3, Snil, hs, hfw, hE, emptyH]
 repeat' (first|((first|refine wA ?_ ?_|refine wB ?_ ?_)<;>intro hc<;>try simp at hc)|refine wF ?_|refine wY ?_|refine wL ?_|refine owe ?_ fun ho=>?_|(simp (disch := first|exact DD|fail) [Snil, hs, hfw, hE, emptyH, -getElem?_pos, gZ, gS]))
 all_goals try (exfalso; omega)
 refine wp_loopE cfg rfl (fun f0 h0 m fr h => ∃ i : Nat, fr 1 = f0 1 ∧ fr 2 = f0 2 ∧ fr 3 = f0 3 ∧ fr 4 = f0 4 ∧ fr 5 = f0 5 ∧ fr 70 = f0 70 ∧ fr 71 = f0 71 ∧ fr 72 = .int .i64 i ∧ h.bs = h0.bs ∧ (i + m = ws.length) ∧ (∀ j, j < i → wordS (nth ws j) = true)) (ws.length) _ _ ⟨0, rfl, rfl, rfl, rfl, rfl, rfl, rfl, by first | rfl | (simp; done) | (simp [R]; done) | simp [R], rfl, by first | rfl | (simp; done) | omega, (fun j hj => by omega)⟩ ?_
 rintro Am Af Ah ⟨i, A1, A2, A3, A4, A5, A70, A71, A72, Abs, hm, hx⟩ Aih
 try simp at A1 A2 A3 A4 A5 A70 A71 Abs
 by_cases hi : i < ws.length
 ·have hnw := hwl _ (nth_mem hi)
  cases hword : wordS (nth ws i) with
  | true =>
   repeat' (first|((first|refine wA ?_ ?_|refine wB ?_ ?_)<;>intro hc<;>try simp at hc)|refine wF ?_|refine wY ?_|refine wL ?_|refine owe ?_ fun ho=>?_|(simp (disch := first|exact DD|fail) [A1, A2, A3, A4, A5, A70, A71, A72, Abs, hi, eS, hword, -getElem?_pos, gZ, gS]))
   exact Aih (Am - 1) _ _ (by omega) ⟨i + 1, by simp [A1, A2, A3, A4, A5, A70, A71, A72, Abs], by simp [A1, A2, A3, A4, A5, A70, A71, A72, Abs], by simp [A1, A2, A3, A4, A5, A70, A71, A72, Abs], by simp [A1, A2, A3, A4, A5, A70, A71, A72, Abs], by simp [A1, A2, A3, A4, A5, A70, A71, A72, Abs], by simp [A1, A2, A3, A4, A5, A70, A71, A72, Abs], by simp [A1, A2, A3, A4, A5, A70, A71, A72, Abs], by simp [A1, A2, A3, A4, A5, A70, A71, A72, Abs], by simp [A1, A2, A3, A4, A5, A70, A71, A72, Abs], by omega, (fun j hj => by (by_cases e : j = i; (subst e; exact hword); exact hx j (by omega)))⟩
  | false =>
   repeat' (first|((first|refine wA ?_ ?_|refine wB ?_ ?_)<;>intro hc<;>try simp at hc)|refine wF ?_|refine wY ?_|refine wL ?_|refine owe ?_ fun ho=>?_|(simp (disch := first|exact DD|fail) [A1, A2, A3, A4, A5, A70, A71, A72, Abs, hi, eS, hword, -getElem?_pos, gZ, gS]))
 ·have hws : wordsT ws := fun j hj => word_ok (hx j (by omega))
  cases huse : (widT v ws).2.2.2 with
  | false =>
   repeat' (first|((first|refine wA ?_ ?_|refine wB ?_ ?_)<;>intro hc<;>try simp at hc)|refine wF ?_|refine wY ?_|refine wL ?_|refine owe ?_ fun ho=>?_|(simp (disch := first|exact DD|fail) [A1, A2, A3, A4, A5, A70, A71, A72, Abs, Abs, hs, huse, -getElem?_pos, gZ, gS]))
   all_goals try (exfalso; omega)
  | true =>
  obtain ⟨W, S, hW, hWl, hwo, hwd⟩ := wid_ok hv (by omega) huse
  have hS := solB_all hwo
  have hpl : (prfB W S (roomT v)).length = W.length + 1 := rowF_len _ _
  have hp0 : nth (prfB W S (roomT v)) 0 = costB W S (roomT v) 0 := nth_rowF (by omega)
  have hpath : (pathB W S (roomT v)).drop 0 = (endsB W S (roomT v) 0).reverse := rfl
  have hptl : (pathB W S (roomT v)).length ≤ 64 := by unfold pathB; rw [List.length_reverse]; exact endsB_len hwo 0
  repeat' (first|((first|refine wA ?_ ?_|refine wB ?_ ?_)<;>intro hc<;>try simp at hc)|refine wF ?_|refine wY ?_|refine wL ?_|refine owe ?_ fun ho=>?_|(simp (config := { maxSteps := 2000000 }) (disch := first|exact DD|fail) [A1, A2, A3, A4, A5, A70, A71, A72, Abs, Abs, hs, hW, hwo, hpl, hp0, hWl, eI, -getElem?_pos, gZ, gS]))
  all_goals try (exfalso; omega)
  have hn8 : ws.length ≤ 8 := by omega
  have hlin := vw_lines hv
  generalize hLp : pathB W S (roomT v) = L at *
  refine wp_loopE cfg rfl (fun f0 h0 m fr h => ∃ jj : Nat, ∃ a : Nat, ∃ at0 : Int, ∃ Rd : List Int, ∃ Nd : List Int, ∃ q1 : Fl, ∃ q2 : Fl, fr 1 = f0 1 ∧ fr 2 = f0 2 ∧ fr 3 = f0 3 ∧ fr 4 = f0 4 ∧ fr 5 = f0 5 ∧ fr 18 = f0 18 ∧ fr 151 = f0 151 ∧ fr 152 = f0 152 ∧ fr 153 = .int .i64 jj ∧ fr 31 = .int .i64 a ∧ fr 32 = .int .i64 at0 ∧ fr 29 = R q1 eI Rd ∧ fr 30 = R q2 eI Nd ∧ h.bs = h0.bs ∧ (App h.ts 1 q1) ∧ (App h.ts 1 q2) ∧ (q2.2.2 = none ∨ q2.2.2 ≠ q1.2.2) ∧ (L.drop jj = (endsB W S (roomT v) a).reverse) ∧ (a ≤ ws.length) ∧ (jj ≤ a) ∧ (LnsOk Rd Nd at0 jj) ∧ (jj + m = L.length)) (L.length) _ _ ⟨0, 0, 0, [], [], (true, true, none), (true, true, none), rfl, rfl, rfl, rfl, rfl, rfl, rfl, rfl, by first | rfl | (simp; done) | (simp [R]; done) | simp [R], by first | rfl | (simp; done) | (simp [R]; done) | simp [R], by first | rfl | (simp; done) | (simp [R]; done) | simp [R], by simp [R], by simp [R], rfl, App.nil _ _ _, App.nil _ _ _, .inl rfl, hpath, Nat.zero_le _, by first | rfl | (simp; done) | omega, LnsOk.none, by first | rfl | (simp; done) | omega⟩ ?_
  rintro Bm Bf Bh ⟨jj, a, at0, Rd, Nd, q1, q2, B1, B2, B3, B4, B5, B18, B151, B152, B153, B31, B32, B29, B30, Bbs, hap1, hap2, hne, hdr, ha, hja, hln, hm2⟩ Bih
  try simp [A1, A2, A3, A4, A5, A70, A71, A72, Abs] at B1 B2 B3 B4 B5 B18 B151 B152 Bbs
  have ht0 := hln.t0
  have hl1 := hln.l1
  have hl2 := hln.l2
  by_cases hjl : jj < L.length
  ·have han : a < W.length := by
    rcases Nat.lt_or_ge a W.length with h | h
    ·exact h
    ·have e : a = W.length := by omega
     have := congrArg List.length hdr
     rw [e, hS.en] at this
     simp at this; omega
   obtain ⟨k, k1, k2, k3, k4⟩ := hS.step a (Nat.zero_le _) han
   have kmx := mxB_le W S (roomT v) a
   have hdr2 : L.drop jj = ((a + k : Nat) : Int) :: (endsB W S (roomT v) (a + k)).reverse := by rw [hdr, k3, List.reverse_append]; rfl
   have hnl : nth L jj = ((a : Int) + k) := by
    rw [nth_drop hjl, List.cons.injEq] at hdr2
    rw [hdr2.1]; omega
   have hdr3 : L.drop (jj + 1) = (endsB W S (roomT v) (a + k)).reverse := by
    rw [nth_drop hjl, List.cons.injEq] at hdr2
    exact hdr2.2
   have hak : ((a : Int) + k).toNat = a + k := by omega
   obtain ⟨r1, r2, r3⟩ := lnT_runes hws hn8 (i := a) (k := k) k1 (by omega)
   have hpl2 := prt_len (ws := ws) (i := a) (k := k) (by omega)
   have hj0 : (ws.take (a + k)).drop a ≠ [] := fun e => by rw [e] at hpl2; simp at hpl2; omega
   have hj1 : ((ws.take (a + k)).drop a).length ≤ 1000000 := by rw [hpl2]; omega
   have hj2 : (joinB ((ws.take (a + k)).drop a) [32]).length ≤ 1000000 := by
    have : (joinB ((ws.take (a + k)).drop a) [32]).length = (lnT ws a k).length := rfl
    rw [this]; omega
   have hjoin : ∀ (h : Heap) (q : Fl), Ci cfg (.func (.func 12) [] []) [R q eS ((ws.take (a + k)).drop a), .str [32]] h = some (.ret (.str (lnT ws a k)), h) := fun h q => Sjoin h q _ [32] hj0 hj1 hj2
   have happ1 : App (bumpT (bumpT Bh.ts q1.2.2 1) q2.2.2 1) 1 (false, false, some Bh.ts.length) := (App.new Bh.ts 1 q1.2.2).keep (.inr (fun e => by
    rcases hap2.lt with x | x
    ·rw [x] at e; cases e
    ·exact x e.symm))
   have hnd := needW_ok hv r1
   have hwr := need_wrap (lnT ws a k) hv
   have hnb := needW_bound hv (runesG (lnT ws a k)).1.length (runesG_len' _)
   have hshw : fitT v (lnT ws a k) (roomT v) := fun hk => by
    obtain ⟨x, e1, e2⟩ := lnT_width hv hws hn8 hwd hk (i := a) (k := k) k1 (by omega)
    have := mxB_fit k1 k2
    unfold lfB at this
    exact ⟨x, e1, by omega⟩
   have hl1024 : (lnT ws a k).length ≤ 1024 := by omega
   have hltl : (lnT ws a k).length < 1099511627776 := by omega
   have hgj : jj < gaps.length → 0 ≤ nth gaps jj ∧ nth gaps jj ≤ 65535 := fun h => hg _ (nth_mem h)
   have hap3 := hap2.keep (sz' := 1) hne
   have e1 : ((a : Int) + k ≤ a) = False := eq_false (by omega)
   have e2 : ((ws.length : Int) < (a : Int) + k) = False := eq_false (by omega)
   repeat' (first|((first|refine wA ?_ ?_|refine wB ?_ ?_)<;>intro hc<;>try simp at hc)|refine wF ?_|refine wY ?_|refine wL ?_|refine owe ?_ fun ho=>?_|(simp (config := { maxSteps := 2000000 }) (disch := first|exact DD|fail) [B1, B2, B3, B4, B5, B18, B151, B152, B153, B31, B32, B29, B30, Bbs, A1, A2, A3, A4, A5, A70, A71, A72, Abs, Abs, Bbs, eI, hs, hv, hnl, hak, e1, e2, hjoin, hnd, hwr, r1, fold_I1, eW, -getElem?_pos, gZ, gS]))
   all_goals try (exfalso; omega)
   all_goals first
    | exact ⟨by omega, by omega⟩
    | skip
   ·have hg1 := hgj (by assumption)
    exact Bih (Bm - 1) _ _ (by omega) ⟨jj + 1, a + k, at0 + nth gaps jj, Rd ++ [at0 + nth gaps jj], Nd ++ [v.speed * ((runesG (lnT ws a k)).1.length : Int)], (false, false, some Bh.ts.length), (false, false, some (bumpT Bh.ts q1.2.2 1).length), by simp [B1, B2, B3, B4, B5, B18, B151, B152, B153, B31, B32, B29, B30, Bbs, A1, A2, A3, A4, A5, A70, A71, A72, Abs, Abs, Bbs], by simp [B1, B2, B3, B4, B5, B18, B151, B152, B153, B31, B32, B29, B30, Bbs, A1, A2, A3, A4, A5, A70, A71, A72, Abs, Abs, Bbs], by simp [B1, B2, B3, B4, B5, B18, B151, B152, B153, B31, B32, B29, B30, Bbs, A1, A2, A3, A4, A5, A70, A71, A72, Abs, Abs, Bbs], by simp [B1, B2, B3, B4, B5, B18, B151, B152, B153, B31, B32, B29, B30, Bbs, A1, A2, A3, A4, A5, A70, A71, A72, Abs, Abs, Bbs], by simp [B1, B2, B3, B4, B5, B18, B151, B152, B153, B31, B32, B29, B30, Bbs, A1, A2, A3, A4, A5, A70, A71, A72, Abs, Abs, Bbs], by simp [B1, B2, B3, B4, B5, B18, B151, B152, B153, B31, B32, B29, B30, Bbs, A1, A2, A3, A4, A5, A70, A71, A72, Abs, Abs, Bbs], by simp [B1, B2, B3, B4, B5, B18, B151, B152, B153, B31, B32, B29, B30, Bbs, A1, A2, A3, A4, A5, A70, A71, A72, Abs, Abs, Bbs], by simp [B1, B2, B3, B4, B5, B18, B151, B152, B153, B31, B32, B29, B30, Bbs, A1, A2, A3, A4, A5, A70, A71, A72, Abs, Abs, Bbs], by simp [B1, B2, B3, B4, B5, B18, B151, B152, B153, B31, B32, B29, B30, Bbs, A1, A2, A3, A4, A5, A70, A71, A72, Abs, Abs, Bbs], by simp [B1, B2, B3, B4, B5, B18, B151, B152, B153, B31, B32, B29, B30, Bbs, A1, A2, A3, A4, A5, A70, A71, A72, Abs, Abs, Bbs], by simp [B1, B2, B3, B4, B5, B18, B151, B152, B153, B31, B32, B29, B30, Bbs, A1, A2, A3, A4, A5, A70, A71, A72, Abs, Abs, Bbs], by simp [B1, B2, B3, B4, B5, B18, B151, B152, B153, B31, B32, B29, B30, Bbs, A1, A2, A3, A4, A5, A70, A71, A72, Abs, Abs, Bbs], by simp [B1, B2, B3, B4, B5, B18, B151, B152, B153, B31, B32, B29, B30, Bbs, A1, A2, A3, A4, A5, A70, A71, A72, Abs, Abs, Bbs], by simp [B1, B2, B3, B4, B5, B18, B151, B152, B153, B31, B32, B29, B30, Bbs, A1, A2, A3, A4, A5, A70, A71, A72, Abs, Abs, Bbs], happ1, App.new _ _ _, .inr (by simp [bump_len]), hdr3, by omega, by omega, hln.next (by omega) (by omega) (by omega), by omega⟩
   ·exact Bih (Bm - 1) _ _ (by omega) ⟨jj + 1, a + k, at0, Rd ++ [at0], Nd ++ [v.speed * ((runesG (lnT ws a k)).1.length : Int)], (false, false, some Bh.ts.length), (false, false, some (bumpT Bh.ts q1.2.2 1).length), by simp [B1, B2, B3, B4, B5, B18, B151, B152, B153, B31, B32, B29, B30, Bbs, A1, A2, A3, A4, A5, A70, A71, A72, Abs, Abs, Bbs], by simp [B1, B2, B3, B4, B5, B18, B151, B152, B153, B31, B32, B29, B30, Bbs, A1, A2, A3, A4, A5, A70, A71, A72, Abs, Abs, Bbs], by simp [B1, B2, B3, B4, B5, B18, B151, B152, B153, B31, B32, B29, B30, Bbs, A1, A2, A3, A4, A5, A70, A71, A72, Abs, Abs, Bbs], by simp [B1, B2, B3, B4, B5, B18, B151, B152, B153, B31, B32, B29, B30, Bbs, A1, A2, A3, A4, A5, A70, A71, A72, Abs, Abs, Bbs], by simp [B1, B2, B3, B4, B5, B18, B151, B152, B153, B31, B32, B29, B30, Bbs, A1, A2, A3, A4, A5, A70, A71, A72, Abs, Abs, Bbs], by simp [B1, B2, B3, B4, B5, B18, B151, B152, B153, B31, B32, B29, B30, Bbs, A1, A2, A3, A4, A5, A70, A71, A72, Abs, Abs, Bbs], by simp [B1, B2, B3, B4, B5, B18, B151, B152, B153, B31, B32, B29, B30, Bbs, A1, A2, A3, A4, A5, A70, A71, A72, Abs, Abs, Bbs], by simp [B1, B2, B3, B4, B5, B18, B151, B152, B153, B31, B32, B29, B30, Bbs, A1, A2, A3, A4, A5, A70, A71, A72, Abs, Abs, Bbs], by simp [B1, B2, B3, B4, B5, B18, B151, B152, B153, B31, B32, B29, B30, Bbs, A1, A2, A3, A4, A5, A70, A71, A72, Abs, Abs, Bbs], by simp [B1, B2, B3, B4, B5, B18, B151, B152, B153, B31, B32, B29, B30, Bbs, A1, A2, A3, A4, A5, A70, A71, A72, Abs, Abs, Bbs], by simp [B1, B2, B3, B4, B5, B18, B151, B152, B153, B31, B32, B29, B30, Bbs, A1, A2, A3, A4, A5, A70, A71, A72, Abs, Abs, Bbs], by simp [B1, B2, B3, B4, B5, B18, B151, B152, B153, B31, B32, B29, B30, Bbs, A1, A2, A3, A4, A5, A70, A71, A72, Abs, Abs, Bbs], by simp [B1, B2, B3, B4, B5, B18, B151, B152, B153, B31, B32, B29, B30, Bbs, A1, A2, A3, A4, A5, A70, A71, A72, Abs, Abs, Bbs], by simp [B1, B2, B3, B4, B5, B18, B151, B152, B153, B31, B32, B29, B30, Bbs, A1, A2, A3, A4, A5, A70, A71, A72, Abs, Abs, Bbs], happ1, App.new _ _ _, .inr (by simp [bump_len]), hdr3, by omega, by omega, hln.next (by omega) (by omega) (by omega), by omega⟩
  ·have hae : a = W.length := by
    rcases Nat.lt_or_ge a W.length with h | h
    ·obtain ⟨k, _, _, k3, _⟩ := hS.step a (Nat.zero_le _) h
     rw [List.drop_eq_nil_of_le (by omega), k3, List.reverse_append] at hdr
     cases hdr
    ·omega
   have hq := hln.q (m := v.lines) (f := flip) (by omega) hlin hf
   obtain ⟨Q, hQ⟩ : ∃ Q : QnZ, Q = ⟨Rd, Nd, v.lines, flip⟩ := ⟨_, rfl⟩
   rw [← hQ] at hq
   have e1 : Rd = Q.ready := by rw [hQ]
   have e2 : Nd = Q.need := by rw [hQ]
   have e3 : v.lines = Q.most := by rw [hQ]
   have e4 : flip = Q.flip := by rw [hQ]
   rw [e1] at B29
   rw [e2] at B30
   have hrn : Q.ready.length = jj := by rw [← e1]; exact hl1
   have haw : ((a : Int) = ws.length) = True := eq_true (by omega)
   obtain ⟨hG, hD⟩ := groupS_ok hq
   have hpl3 : (prfS Q).length = Q.ready.length + 1 := rowF_len _ _
   have hpn : nth (prfS Q) Q.ready.length = erS Q Q.ready.length := nth_rowF (by omega)
   have hml : 1 ≤ Q.most ∧ Q.most ≤ 8 := by rw [← e3]; exact hlin
   have hfl : 0 ≤ Q.flip ∧ Q.flip ≤ 65535 := by rw [← e4]; exact hf
   clear hQ hS hdr
   repeat' (first|((first|refine wA ?_ ?_|refine wB ?_ ?_)<;>intro hc<;>try simp at hc)|refine wF ?_|refine wY ?_|refine wL ?_|refine owe ?_ fun ho=>?_|(simp (config := { maxSteps := 2000000 }) (disch := first|exact DD|fail) [B1, B2, B3, B4, B5, B18, B151, B152, B153, B31, B32, B29, B30, Bbs, A1, A2, A3, A4, A5, A70, A71, A72, Abs, Abs, Bbs, eI, haw, e3, e4, hq, hG, hpl3, hpn, -getElem?_pos, gZ, gS]))
   all_goals try (exfalso; omega)
   refine wp_loopE cfg rfl (fun f0 h0 m fr h => ∃ l : Nat, ∃ O : List Nat, ∃ q3 : Fl, fr 3 = f0 3 ∧ fr 4 = f0 4 ∧ fr 5 = f0 5 ∧ fr 29 = f0 29 ∧ fr 30 = f0 30 ∧ fr 41 = f0 41 ∧ fr 48 = .int .i64 l ∧ fr 47 = R q3 eI (intsN O) ∧ h.bs = h0.bs ∧ (App h.ts 1 q3) ∧ (∀ G, okG Q l G → okG Q 0 (O ++ G)) ∧ (l ≤ Q.ready.length) ∧ (O.length ≤ l) ∧ (l + m = Q.ready.length)) (Q.ready.length) _ _ ⟨0, [], (true, true, none), rfl, rfl, rfl, rfl, rfl, rfl, by first | rfl | (simp; done) | (simp [R]; done) | simp [R], by simp [R, intsN], rfl, App.nil _ _ _, (fun G h => h), Nat.zero_le _, Nat.zero_le _, by first | rfl | (simp; done) | omega⟩ ?_
   rintro Cm Cf Ch ⟨l, O, q3, C3, C4, C5, C29, C30, C41, C48, C47, Cbs, hap3, hpre, hll, hol, hm3⟩ Cih
   try simp [B1, B2, B3, B4, B5, B18, B151, B152, B153, B31, B32, B29, B30, Bbs, A1, A2, A3, A4, A5, A70, A71, A72, Abs] at C3 C4 C5 C29 C30 C41 Cbs
   have hQ8 := hq.1
   by_cases hl3 : l < Q.ready.length
   ·have hpre2 : ∀ (e : Nat), l < e → e ≤ Q.ready.length → (e : Int) - l ≤ Q.most → ∀ G, okG Q e G → okG Q 0 ((O ++ [e]) ++ G) := fun e h1 h2 h3 G hG => by
     rw [List.append_assoc]
     exact hpre _ ⟨h1, h2, by unfold loS; omega, hG⟩
    have hin : ∀ e : Nat, intsN (O ++ [e]) = intsN O ++ [(e : Int)] := fun e => by simp [intsN]
    by_cases hoo : O.length < other.length
    ·have hx := ho _ (nth_mem hoo)
     obtain ⟨r, hr⟩ : ∃ r, nth other O.length % Q.most = r := ⟨_, rfl⟩
     have hr1 : 0 ≤ r := by rw [← hr]; exact Int.emod_nonneg _ (by omega)
     have hr2 : r < Q.most := by rw [← hr]; exact Int.emod_lt_of_pos _ (by omega)
     obtain ⟨e, he⟩ : ∃ e : Nat, min (Q.ready.length : Int) ((l : Int) + (1 + r)) = e := ⟨(min (Q.ready.length : Int) ((l : Int) + (1 + r))).toNat, by omega⟩
     have hine := hin e
     repeat' (first|((first|refine wA ?_ ?_|refine wB ?_ ?_)<;>intro hc<;>try simp at hc)|refine wF ?_|refine wY ?_|refine wL ?_|refine owe ?_ fun ho=>?_|(simp (config := { maxSteps := 2000000 }) (disch := first|exact DD|fail) [C3, C4, C5, C29, C30, C41, C48, C47, Cbs, B1, B2, B3, B4, B5, B18, B151, B152, B153, B31, B32, B29, B30, Bbs, A1, A2, A3, A4, A5, A70, A71, A72, Abs, Abs, Bbs, Cbs, e3, eI, eU, hl3, hoo, hr, he, fold_I1, -getElem?_pos, gZ, gS]))
     all_goals try (exfalso; omega)
     exact Cih (Q.ready.length - e) _ _ (by omega) ⟨e, O ++ [e], (false, false, some Ch.ts.length), by simp [C3, C4, C5, C29, C30, C41, C48, C47, Cbs, B1, B2, B3, B4, B5, B18, B151, B152, B153, B31, B32, B29, B30, Bbs, A1, A2, A3, A4, A5, A70, A71, A72, Abs, Cbs, Bbs, Abs, e3, hine], by simp [C3, C4, C5, C29, C30, C41, C48, C47, Cbs, B1, B2, B3, B4, B5, B18, B151, B152, B153, B31, B32, B29, B30, Bbs, A1, A2, A3, A4, A5, A70, A71, A72, Abs, Cbs, Bbs, Abs, e3, hine], by simp [C3, C4, C5, C29, C30, C41, C48, C47, Cbs, B1, B2, B3, B4, B5, B18, B151, B152, B153, B31, B32, B29, B30, Bbs, A1, A2, A3, A4, A5, A70, A71, A72, Abs, Cbs, Bbs, Abs, e3, hine], by simp [C3, C4, C5, C29, C30, C41, C48, C47, Cbs, B1, B2, B3, B4, B5, B18, B151, B152, B153, B31, B32, B29, B30, Bbs, A1, A2, A3, A4, A5, A70, A71, A72, Abs, Cbs, Bbs, Abs, e3, hine], by simp [C3, C4, C5, C29, C30, C41, C48, C47, Cbs, B1, B2, B3, B4, B5, B18, B151, B152, B153, B31, B32, B29, B30, Bbs, A1, A2, A3, A4, A5, A70, A71, A72, Abs, Cbs, Bbs, Abs, e3, hine], by simp [C3, C4, C5, C29, C30, C41, C48, C47, Cbs, B1, B2, B3, B4, B5, B18, B151, B152, B153, B31, B32, B29, B30, Bbs, A1, A2, A3, A4, A5, A70, A71, A72, Abs, Cbs, Bbs, Abs, e3, hine], by simp [C3, C4, C5, C29, C30, C41, C48, C47, Cbs, B1, B2, B3, B4, B5, B18, B151, B152, B153, B31, B32, B29, B30, Bbs, A1, A2, A3, A4, A5, A70, A71, A72, Abs, Cbs, Bbs, Abs, e3, hine], by simp [C3, C4, C5, C29, C30, C41, C48, C47, Cbs, B1, B2, B3, B4, B5, B18, B151, B152, B153, B31, B32, B29, B30, Bbs, A1, A2, A3, A4, A5, A70, A71, A72, Abs, Cbs, Bbs, Abs, e3, hine], by simp [C3, C4, C5, C29, C30, C41, C48, C47, Cbs, B1, B2, B3, B4, B5, B18, B151, B152, B153, B31, B32, B29, B30, Bbs, A1, A2, A3, A4, A5, A70, A71, A72, Abs, Cbs, Bbs, Abs, e3, hine], App.new _ _ _, hpre2 e (by omega) (by omega) (by omega), by omega, by simp; omega, by omega⟩
    ·have he : min (Q.ready.length : Int) ((l : Int) + 1) = (l : Int) + 1 := by omega
     have hine := hin (l + 1)
     repeat' (first|((first|refine wA ?_ ?_|refine wB ?_ ?_)<;>intro hc<;>try simp at hc)|refine wF ?_|refine wY ?_|refine wL ?_|refine owe ?_ fun ho=>?_|(simp (config := { maxSteps := 2000000 }) (disch := first|exact DD|fail) [C3, C4, C5, C29, C30, C41, C48, C47, Cbs, B1, B2, B3, B4, B5, B18, B151, B152, B153, B31, B32, B29, B30, Bbs, A1, A2, A3, A4, A5, A70, A71, A72, Abs, Abs, Bbs, Cbs, e3, eI, eU, hl3, hoo, he, fold_I1, -getElem?_pos, gZ, gS]))
     all_goals try (exfalso; omega)
     exact Cih (Q.ready.length - (l + 1)) _ _ (by omega) ⟨l + 1, O ++ [l + 1], (false, false, some Ch.ts.length), by simp [C3, C4, C5, C29, C30, C41, C48, C47, Cbs, B1, B2, B3, B4, B5, B18, B151, B152, B153, B31, B32, B29, B30, Bbs, A1, A2, A3, A4, A5, A70, A71, A72, Abs, Cbs, Bbs, Abs, e3, hine], by simp [C3, C4, C5, C29, C30, C41, C48, C47, Cbs, B1, B2, B3, B4, B5, B18, B151, B152, B153, B31, B32, B29, B30, Bbs, A1, A2, A3, A4, A5, A70, A71, A72, Abs, Cbs, Bbs, Abs, e3, hine], by simp [C3, C4, C5, C29, C30, C41, C48, C47, Cbs, B1, B2, B3, B4, B5, B18, B151, B152, B153, B31, B32, B29, B30, Bbs, A1, A2, A3, A4, A5, A70, A71, A72, Abs, Cbs, Bbs, Abs, e3, hine], by simp [C3, C4, C5, C29, C30, C41, C48, C47, Cbs, B1, B2, B3, B4, B5, B18, B151, B152, B153, B31, B32, B29, B30, Bbs, A1, A2, A3, A4, A5, A70, A71, A72, Abs, Cbs, Bbs, Abs, e3, hine], by simp [C3, C4, C5, C29, C30, C41, C48, C47, Cbs, B1, B2, B3, B4, B5, B18, B151, B152, B153, B31, B32, B29, B30, Bbs, A1, A2, A3, A4, A5, A70, A71, A72, Abs, Cbs, Bbs, Abs, e3, hine], by simp [C3, C4, C5, C29, C30, C41, C48, C47, Cbs, B1, B2, B3, B4, B5, B18, B151, B152, B153, B31, B32, B29, B30, Bbs, A1, A2, A3, A4, A5, A70, A71, A72, Abs, Cbs, Bbs, Abs, e3, hine], by simp [C3, C4, C5, C29, C30, C41, C48, C47, Cbs, B1, B2, B3, B4, B5, B18, B151, B152, B153, B31, B32, B29, B30, Bbs, A1, A2, A3, A4, A5, A70, A71, A72, Abs, Cbs, Bbs, Abs, e3, hine], by simp [C3, C4, C5, C29, C30, C41, C48, C47, Cbs, B1, B2, B3, B4, B5, B18, B151, B152, B153, B31, B32, B29, B30, Bbs, A1, A2, A3, A4, A5, A70, A71, A72, Abs, Cbs, Bbs, Abs, e3, hine], by simp [C3, C4, C5, C29, C30, C41, C48, C47, Cbs, B1, B2, B3, B4, B5, B18, B151, B152, B153, B31, B32, B29, B30, Bbs, A1, A2, A3, A4, A5, A70, A71, A72, Abs, Cbs, Bbs, Abs, e3, hine], App.new _ _ _, hpre2 (l + 1) (by omega) (by omega) (by omega), by omega, by simp; omega, by omega⟩
   ·have hO : okG Q 0 O := by
     have := hpre [] (show l = Q.ready.length by omega)
     rwa [List.append_nil] at this
    have hge := okG_best hO (show erS Q 0 ≤ 0 from Int.le_refl _)
    repeat' (first|((first|refine wA ?_ ?_|refine wB ?_ ?_)<;>intro hc<;>try simp at hc)|refine wF ?_|refine wY ?_|refine wL ?_|refine owe ?_ fun ho=>?_|(simp (config := { maxSteps := 2000000 }) (disch := first|exact DD|fail) [C3, C4, C5, C29, C30, C41, C48, C47, Cbs, B1, B2, B3, B4, B5, B18, B151, B152, B153, B31, B32, B29, B30, Bbs, A1, A2, A3, A4, A5, A70, A71, A72, Abs, Abs, Bbs, Cbs, e4, hl3, hq, hO, hge, -getElem?_pos, gZ, gS]))
    all_goals try (exfalso; omega)
@[simp] theorem S3 (v : VwZ) (ws : List (List UInt8)) (gaps : List Int) (flip : Int) (other : List Int) (hs : smVw v) (hwl : ∀ x ∈ ws, x.length < 1099511627776) (hwn : ws.length < 1099511627776) (hgn : gaps.length < 1099511627776) (hon : other.length < 1099511627776) (hg : ∀ x ∈ gaps, 0 ≤ x ∧ x ≤ 65535) (hf : 0 ≤ flip ∧ flip ≤ 65535) (ho : ∀ x ∈ other, 0 ≤ x ∧ x ≤ 255) (q1 q2 q3 q4 q5 q6 q7 : Fl) (hh : Heap) : Ci cfg (.func (.func 3) [] []) [.agg [.int .i64 v.no, .int .i64 v.lang, .int .i64 v.lines, .int .i64 v.room, .int .i64 v.cells, .int .i64 v.speed, .bool v.right, R  q1 eG v.font.gs, .int .i64 v.font.other, R  q2 eK v.font.ks, R  q3 eZ v.signs, .int .i64 v.scr.w, .int .i64 v.scr.h, R  q4 eQ v.scr.bl], R  q5 eS ws, R  q6 eW gaps, .int .u16 flip, R  q7 eU other] hh = some (.ret (.bool true), hh) :=
 Ci_K cfg rfl rfl (by simp) (by simp) (C3 v ws gaps flip other hs hwl hwn hgn hon hg hf ho)
end Go.Ab
namespace Go.Ab
open Go.Proofs Go.Proofs.YtlmhbemgaikmaaaGreatDoor
set_option maxRecDepth 100000
theorem rd_strings : Reads Tryz.prog 32 (fun l : List (List UInt8) => ∀ y ∈ l, True) (fun l => [R fl0 eS l]) (fun l => (l.map fun s => s.length + 1).sum) := reads_slice Tryz.underlying32 (by kernel_rfl) (by rw [show Tryz.prog.cellsOf 9 = 1 by kernel_rfl]; decide) rd_string
theorem strs_len (l : List (List UInt8)) : l.length ≤ (l.map fun s => s.length + 1).sum := sum_len l
theorem strs_mem {l : List (List UInt8)} {x : List UInt8} (h : x ∈ l) : x.length < (l.map fun s => s.length + 1).sum := by
 have := sum_mem (f := fun s : List UInt8 => s.length + 1) h
 omega
theorem rd_u16 : Reads Tryz.prog 34 (fun n : Int => (Lit.int .u16 n).wf = true) (fun n => [.int .u16 n]) (fun _ => 0) := reads_int Tryz.underlying34 (by kernel_rfl)
theorem rd_u16s : Reads Tryz.prog 33 (fun l : List Int => ∀ y ∈ l, (Lit.int .u16 y).wf = true) (fun l => [R fl0 eW l]) (fun l => (l.map fun _ => 0 + 1).sum) := reads_slice Tryz.underlying33 (by kernel_rfl) (by rw [show Tryz.prog.cellsOf 34 = 1 by kernel_rfl]; decide) rd_u16
theorem u16_of {n : Int} (h : (Lit.int .u16 n).wf = true) : 0 ≤ n ∧ n ≤ 65535 := by
 simp only [Lit.wf, Bool.and_eq_true, decide_eq_true_eq] at h
 have h1 : IntKind.u16.min = 0 := by decide
 have h2 : IntKind.u16.max = 65535 := by decide
 omega
end Go.Ab
