/- A part of the proof. -/
import Derived.Test.YtlmhbemgaikmaaaGreatDoorB2a
import Derived.Test.YtlmhbemgaikmaaaGreatDoorB2b
import Derived.Test.YtlmhbemgaikmaaaGreatDoorB4
import Derived.Test.YtlmhbemgaikmaaaGreatDoorGr10
set_option linter.unusedVariables false
set_option linter.unusedSimpArgs false
set_option linter.unusedSectionVars false
set_option linter.deprecated false
namespace Go.Ab
open Go.Proofs
set_option maxRecDepth 100000
theorem C47 (l : List Int) (right : Bool) (hs : l.length < 1099511627776) : Kc cfg 47 [R fl0 eI l, .bool right] (.ret (.tuple [R fl0 eI (levS l right).1, .int .i64 (levS l right).2])) := by
 cases right with
 | true => exact Lev_true l hs
 | false => exact Lev_false l hs
@[simp] theorem S47 (l : List Int) (right : Bool) (hs : l.length < 1099511627776) (q1 : Fl) (hh : Heap) : Ci cfg (.func (.func 47) [] []) [R  q1 eI l, .bool right] hh = some (.ret (.tuple [R fl0 eI (levS l right).1, .int .i64 (levS l right).2]), hh) :=
 Ci_K cfg rfl rfl (by simp) (by simp) (C47 l right hs)
end Go.Ab
namespace Go.Ab
open Go.Proofs
set_option maxRecDepth 100000
set_option maxHeartbeats 8000000
def oT (L : List Int) : Nat → Nat → Int
 | 0 => fun j => j
 | c + 1 => fun j => oT L c (revF (geL L (2 - (c : Int))) L.length j)
def sT (L : List Int) (c i : Nat) : Nat → Int := fun j => if j < i then oT L (c + 1) j else oT L c j
theorem oT_two (L : List Int) : oT L 2 = fun i => (ordF L i : Int) := by funext i; rfl
theorem sT_zero (L : List Int) (c : Nat) : sT L c 0 = oT L c := by funext j; unfold sT; rw [if_neg (by omega)]
theorem sT_run {L : List Int} {c a b : Nat} (r : Run (geL L (2 - (c : Int))) L.length a b) : fullR a b (sT L c a) = sT L c b := by
 funext j
 unfold fullR sT
 by_cases h1 : a ≤ j ∧ j < b
 ·rw [if_pos h1, if_neg (by omega), if_pos h1.2]
  show oT L c (a + b - 1 - j) = oT L c (revF (geL L (2 - (c : Int))) L.length j)
  rw [revF_run r h1.1 h1.2]
 ·rw [if_neg h1]
  by_cases h2 : j < a
  ·rw [if_pos h2, if_pos (by have := r.lt; omega)]
  ·rw [if_neg h2, if_neg (by omega)]
theorem sT_skip {L : List Int} {c i : Nat} (h : i < L.length → geL L (2 - (c : Int)) i = false) : tab L.length (cI (sT L c i)) = tab L.length (cI (sT L c (i + 1))) := tab_ext fun j hj => by
 unfold cI
 congr 1
 show (if j < i then oT L (c + 1) j else oT L c j) = (if j < i + 1 then oT L (c + 1) j else oT L c j)
 by_cases e : j = i
 ·subst e
  rw [if_neg (by omega), if_pos (by omega)]
  show _ = oT L c (revF (geL L (2 - (c : Int))) L.length j)
  rw [revF_no (h hj)]
 ·by_cases h1 : j < i
  ·rw [if_pos h1, if_pos (by omega)]
  ·rw [if_neg h1, if_neg (by omega)]
theorem sT_all {L : List Int} {c i : Nat} (h : L.length ≤ i) : tab L.length (cI (sT L c i)) = tab L.length (cI (oT L (c + 1))) := tab_ext fun j hj => by
 unfold cI
 congr 1
 show (if j < i then oT L (c + 1) j else oT L c j) = _
 rw [if_pos (by omega)]
theorem iota_rows (L : List Int) (n : Nat) : rows eI (iotaL n) = tab n (cI (oT L 0)) := by
 rw [rows_nth', iotaL_len]
 exact tab_ext fun j hj => by unfold cI; rw [iotaL_nth hj]; rfl
theorem Cge (x k : Int) (p : Nat) (h : Heap) (hb : h.bs[p]? = some (.cells [.int .i64 k])) : Ci cfg (.func (.func 76) [] [.ptr p 0]) [.int .i64 x] h = some (.ret (.bool (decide (k ≤ x))), h) := by
 refine Ci_fun_wp (fn := Tryz.f76) rfl Tryz.func76 rfl (by simp [Tryz.f76]) ?_
 simp (disch := first|exact DD|fail) [-getElem?_pos, gZ, gS, Tryz.f76, hb]
theorem app_iota (c0 : List V) (X : List Blk) (ts : List (Option Nat)) (fl2 : Fl) (i : Nat) (hi : i < 1048576) : appendV Tryz.prog ⟨.cells c0 :: (X ++ [.cells (rows eI (iotaL i))]), ts⟩ true #[36, 36] (.slice (X.length + 1) 0 i 1) (R fl2 eI [(i : Int)]) = some (.slice (X.length + 2) 0 (i + 1) 1, ⟨.cells c0 :: (X ++ [.dead, .cells (rows eI (iotaL (i + 1)))]), ts⟩) := by
 obtain ⟨b, hb1, hb2⟩ := apok_apz (P := Tryz.prog) (ts := #[36, 36]) (sz := 1) (by kernel_rfl)
 have := appendB_sl (P := Tryz.prog) (E := eI) (h := ⟨.cells c0 :: (X ++ [.cells (rows eI (iotaL i))]), ts⟩) (l := iotaL i) (m := [(i : Int)]) (a := X.length + 1) (fl2 := fl2) hb1 (by simp) (by simp) (by simp [iotaL_len]; omega) hb2
 rw [iotaL_len, ← iotaL_succ] at this
 rw [this]
 simp [app_set0]
theorem gw {b0 b1 : Blk} {X Y M : List Blk} {j : Nat} : (b0 :: (X ++ b1 :: (Y ++ M)))[X.length + (Y.length + (j + 2))]? = M[j]? := by
 rw [show X.length + (Y.length + (j + 2)) = X.length + (Y.length + j + 1) + 1 by omega]
 simp only [List.getElem?_cons_succ, app_at]
theorem gws {b0 b1 x : Blk} {X Y M : List Blk} {j : Nat} : (b0 :: (X ++ b1 :: (Y ++ M))).set (X.length + (Y.length + (j + 2))) x = b0 :: (X ++ b1 :: (Y ++ M.set j x)) := by
 rw [show X.length + (Y.length + (j + 2)) = X.length + (Y.length + j + 1) + 1 by omega]
 simp only [List.set_cons_succ, app_set]
theorem C48 (L : List Int) (hs : L.length < 1099511627776) : Kc cfg 48 [R fl0 eI L] (.ret (.tuple [R fl0 eI (ordS L).1, .int .i64 (ordS L).2])) := by
 by_cases hl : 4096 < L.length
 ·have hO : ordS L = ([], 2) := by unfold ordS; rw [if_pos hl]
  rw [hO]
  refine outS_of_wp cfg (fn := Tryz.f48) Tryz.func48 rfl (by simp [Tryz.f48]) ?_
  simp (disch := first|exact DD|fail) [-getElem?_pos, gZ, gS, Tryz.f48, emptyH]
  repeat' (first|((first|refine wA ?_ ?_|refine wB ?_ ?_)<;>intro hc<;>try simp at hc)|refine wF ?_|refine wY ?_|refine wL ?_|refine owe ?_ fun ho=>?_|(simp (disch := first|exact DD|fail) [emptyH, -getElem?_pos, gZ, gS]))
  all_goals first | rfl | (exfalso; omega)
 by_cases hL0 : L = []
 ·subst hL0
  have hO : ordS [] = ([], 0) := by unfold ordS; rfl
  rw [hO]
  have hx0 : indexV Tryz.prog 148 (.agg [.int .i64 2, .int .i64 1]) (.int .i64 0) = some (.int .i64 2) := by simp [indexV]
  have hx1 : indexV Tryz.prog 148 (.agg [.int .i64 2, .int .i64 1]) (.int .i64 1) = some (.int .i64 1) := by simp [indexV]
  refine outS_of_wp cfg (fn := Tryz.f48) Tryz.func48 rfl (by simp [Tryz.f48]) ?_
  simp (disch := first|exact DD|fail) [-getElem?_pos, gZ, gS, Tryz.f48, emptyH]
  repeat' (first | (refine wp_unroll rfl ?_) | ((first | refine wA ?_ ?_ | refine wB ?_ ?_) <;> intro hc <;> try simp at hc) | refine wF ?_ | refine wY ?_ | refine wL ?_ | refine owe ?_ fun ho => ?_ | (simp (disch := first|exact DD|fail) [emptyH, hx0, hx1, Tryz.f74, Tryz.f96, -getElem?_pos, gZ, gS]))
  all_goals rfl
 have hn0 : 0 < L.length := List.length_pos_iff.2 hL0
 have hbad := fun i => lev_bad (L := L) (i := i)
 have hgood := lev_good (L := L)
 generalize hO : ordS L = OS at *
 have hap0 : ∀ h fl2 x, appendV Tryz.prog h true #[36, 36] (.row true true [] 0 none) (R fl2 eI [x]) = some (.slice h.bs.length 0 1 1, newB h (.cells (rows eI [x]))) := fun h fl2 x => by
  have := append_Bn (P := Tryz.prog) (E := eI) (h := h) (fl := (true, true, none)) (l := ([] : List Int)) (m := [x]) (ts := #[36, 36]) (fl2 := fl2) (by kernel_rfl) (by simp) rfl (by simp)
  exact this
 refine outS_of_wp cfg (fn := Tryz.f48) Tryz.func48 rfl (by simp [Tryz.f48]) ?_
 simp (disch := first|exact DD|fail) [-getElem?_pos, gZ, gS, Tryz.f48, emptyH]
 repeat' (first|((first|refine wA ?_ ?_|refine wB ?_ ?_)<;>intro hc<;>try simp at hc)|refine wF ?_|refine wY ?_|refine wL ?_|refine owe ?_ fun ho=>?_|(simp (disch := first|exact DD|fail) [emptyH, -getElem?_pos, gZ, gS]))
 all_goals first
  | (exfalso; omega)
  | skip
 refine wp_loopE cfg rfl (fun f0 h0 m fr h => ∃ i : Nat, fr 0 = f0 0 ∧ fr 2 = f0 2 ∧ fr 12 = f0 12 ∧ fr 13 = f0 13 ∧ fr 14 = .int .i64 i ∧ ((i = 0 ∧ h.bs = [.cells [.row true true [] 0 none]]) ∨ (0 < i ∧ ∃ X : List Blk, h.bs = .cells [.slice (X.length + 1) 0 i 1] :: (X ++ [.cells (rows eI (iotaL i))]))) ∧ (i + m = L.length) ∧ (∀ j, j < i → 0 ≤ nth L j ∧ nth L j ≤ 2)) (L.length) _ _ ⟨0, rfl, rfl, rfl, rfl, by first | rfl | (simp; done) | (simp [R]; done) | simp [R], .inl ⟨rfl, by simp⟩, by first | rfl | (simp; done) | omega, fun j hj => by omega⟩ ?_
 rintro Am Af Ah ⟨i, A0, A2, A12, A13, A14, hb, hm, hok⟩ Aih
 try simp at A0 A2 A12 A13
 by_cases hi : i < L.length
 ·by_cases hq : 0 ≤ nth L i ∧ nth L i ≤ 2
  ·rcases hb with ⟨h0, hb⟩ | ⟨h0, X, hb⟩
   ·subst h0
    have hi1 : iotaL (0 + 1) = [((0 : Nat) : Int)] := rfl
    repeat' (first|((first|refine wA ?_ ?_|refine wB ?_ ?_)<;>intro hc<;>try simp at hc)|refine wF ?_|refine wY ?_|refine wL ?_|refine owe ?_ fun ho=>?_|(simp (disch := first|exact DD|fail) [A0, A2, A12, A13, A14, eI, fold_I1, hb, hap0, -getElem?_pos, gZ, gS]))
    all_goals first
     | (exfalso; omega)
     | exact Aih (Am - 1) _ _ (by omega) ⟨0 + 1, by simp [A0, A2, A12, A13, A14], by simp [A0, A2, A12, A13, A14], by simp [A0, A2, A12, A13, A14], by simp [A0, A2, A12, A13, A14], by simp [A0, A2, A12, A13, A14], .inr ⟨by omega, [], by first | rfl | simp [hi1]⟩, by omega, fun j hj => by (obtain rfl : j = 0 := by omega); exact hq⟩
   ·have hap : ∀ fl2, appendV Tryz.prog Ah true #[36, 36] (.slice (X.length + 1) 0 i 1) (R fl2 eI [(i : Int)]) = some (.slice (X.length + 2) 0 (i + 1) 1, ⟨.cells [.slice (X.length + 1) 0 i 1] :: (X ++ [.dead, .cells (rows eI (iotaL (i + 1)))]), Ah.ts⟩) := fun fl2 => by
     have := app_iota [.slice (X.length + 1) 0 i 1] X Ah.ts fl2 i (by omega)
     rw [← hb] at this
     exact this
    repeat' (first|((first|refine wA ?_ ?_|refine wB ?_ ?_)<;>intro hc<;>try simp at hc)|refine wF ?_|refine wY ?_|refine wL ?_|refine owe ?_ fun ho=>?_|(simp (disch := first|exact DD|fail) [A0, A2, A12, A13, A14, eI, fold_I1, hb, hap, -getElem?_pos, gZ, gS]))
    all_goals first
     | (exfalso; omega)
     | exact Aih (Am - 1) _ _ (by omega) ⟨i + 1, by simp [A0, A2, A12, A13, A14], by simp [A0, A2, A12, A13, A14], by simp [A0, A2, A12, A13, A14], by simp [A0, A2, A12, A13, A14], by simp [A0, A2, A12, A13, A14], .inr ⟨by omega, X ++ [.dead], by simp⟩, by omega, fun j hj => by (by_cases e : j = i; (subst e; exact hq); exact hok j (by omega))⟩
  ·have h2 := hbad i hi hq hl
   rcases hb with ⟨h0, hb⟩ | ⟨h0, X, hb⟩
   ·repeat' (first|((first|refine wA ?_ ?_|refine wB ?_ ?_)<;>intro hc<;>try simp at hc)|refine wF ?_|refine wY ?_|refine wL ?_|refine owe ?_ fun ho=>?_|(simp (disch := first|exact DD|fail) [A0, A2, A12, A13, A14, eI, hb, -getElem?_pos, gZ, gS]))
    all_goals first
     | (exfalso; omega)
     | (rw [h2]; exact ⟨rfl, rfl⟩)
   ·repeat' (first|((first|refine wA ?_ ?_|refine wB ?_ ?_)<;>intro hc<;>try simp at hc)|refine wF ?_|refine wY ?_|refine wL ?_|refine owe ?_ fun ho=>?_|(simp (disch := first|exact DD|fail) [A0, A2, A12, A13, A14, eI, hb, -getElem?_pos, gZ, gS]))
    all_goals first
     | (exfalso; omega)
     | (rw [h2]; exact ⟨rfl, rfl⟩)
 ·obtain rfl : i = L.length := by omega
  have h2 := hgood (fun j hj => hok j hj) hl
  rcases hb with ⟨h0, hb⟩ | ⟨h0, X, hb⟩
  ·omega
  rw [iota_rows L] at hb
  clear Aih hbad hgood hok
  repeat' (first|((first|refine wA ?_ ?_|refine wB ?_ ?_)<;>intro hc<;>try simp at hc)|refine wF ?_|refine wY ?_|refine wL ?_|refine owe ?_ fun ho=>?_|(simp (disch := first|exact DD|fail) [A0, A2, A12, A13, A14, hb, -getElem?_pos, gZ, gS]))
  refine wp_loopD (c := cfg) rfl (fun f0 h0 d0 m fr h dd => ∃ c : Nat, ∃ Y : List Blk, ∃ ms : List Nat, fr 0 = f0 0 ∧ fr 2 = f0 2 ∧ fr 30 = f0 30 ∧ fr 31 = .int .i64 c ∧ (h.bs = .cells [.slice (X.length + 1) 0 L.length 1] :: (X ++ .cells (tab L.length (cI (oT L c))) :: Y)) ∧ (c + m = 2) ∧ (Mk ms Y) ∧ dd = mkD (X.length + 2) ms) (2) _ _ _ ⟨0, [], [], rfl, rfl, rfl, by first | rfl | (simp; done) | (simp [R]; done) | simp [R], hb, by first | rfl | (simp; done) | omega, Mk.nil _, by first | rfl | simp⟩ ?_
  rintro Cm Cf Ch _ ⟨c, Y, ms, C0, C2, C30, C31, hb2, hc2, hmk, rfl⟩ Cih
  try simp [A0, A2, A12, A13, A14] at C0 C2 C30
  by_cases hcc : c < 2
  ·have hidx : indexV Tryz.prog 148 (.agg [.int .i64 2, .int .i64 1]) (.int .i64 (c : Int)) = some (.int .i64 (2 - (c : Int))) := by
    rcases (show c = 0 ∨ c = 1 by omega) with rfl | rfl <;> simp [indexV]
   obtain ⟨k, hk⟩ : ∃ k : Int, k = 2 - (c : Int) := ⟨_, rfl⟩
   rw [← hk] at hidx
   repeat' (first|((first|refine wA ?_ ?_|refine wB ?_ ?_)<;>intro hc<;>try simp at hc)|refine wF ?_|refine wY ?_|refine wL ?_|refine owe ?_ fun ho=>?_|(simp (disch := first|exact DD|fail) [C0, C2, C30, C31, A0, A2, A12, A13, A14, hb2, hidx, app_at, app_at0, app_set, app_set0, gw, gws, Nat.add_assoc, Tryz.f74, Tryz.f96, -getElem?_pos, gZ, gS]))
   refine wp_loopE cfg rfl (fun f0 h0 m fr h => ∃ i : Nat, ∃ W : List Blk, fr 0 = f0 0 ∧ fr 1 = f0 1 ∧ fr 2 = f0 2 ∧ fr 4 = .int .i64 i ∧ (h.bs = (h0.bs.set (X.length + 1) (.cells (tab L.length (cI (sT L c i))))) ++ W) ∧ (i + m = L.length + 1) ∧ (i = 0 ∨ L.length < i ∨ geL L k (i - 1) = false)) (L.length + 1) _ _ ⟨0, [], rfl, rfl, rfl, by first | rfl | (simp; done) | (simp [R]; done) | simp [R], by simp [sT_zero, app_set0], by first | rfl | (simp; done) | omega, by first | rfl | (simp; done) | omega⟩ ?_
   rintro Dm Df Dh ⟨i, W, D0, D1, D2, D4, hb3, hm2, hst⟩ Dih
   try simp [C0, C2, C30, C31, A0, A2, A12, A13, A14] at D0 D1 D2
   simp [app_set0] at hb3
   by_cases hi2 : i < L.length
   ·repeat' (first|((first|refine wA ?_ ?_|refine wB ?_ ?_)<;>intro hc<;>try simp at hc)|refine wF ?_|refine wY ?_|refine wL ?_|refine owe ?_ fun ho=>?_|(simp (disch := first|exact DD|fail) [D0, D1, D2, D4, C0, C2, C30, C31, hb3, eI, app_at, app_at0, app_set, app_set0, gw, gws, Nat.add_assoc, -getElem?_pos, gZ, gS]))
    refine wp_loopE cfg rfl (fun f0 h0 m fr h => ∃ q : Nat, fr 0 = f0 0 ∧ fr 1 = f0 1 ∧ fr 2 = f0 2 ∧ fr 5 = f0 5 ∧ fr 4 = .int .i64 q ∧ h.bs = h0.bs ∧ (i ≤ q ∧ q ≤ L.length) ∧ (q + m = L.length) ∧ (∀ j, i ≤ j → j < q → geL L k j = true)) (L.length - i) _ _ ⟨i, rfl, rfl, rfl, rfl, by simp [D4], rfl, by first | rfl | (simp; done) | omega, by first | rfl | (simp; done) | omega, fun j h1 h2 => by omega⟩ ?_
    rintro Em Ef Eh ⟨q, E0, E1, E2, E5, E4, Ebs, hq, hm3, hall⟩ Eih
    try simp [D0, D1, D2, D4, C0, C2, C30, C31, A0, A2, A12, A13, A14] at E0 E1 E2 E5 Ebs
    simp [hb3] at Ebs
    have hcl := fun x => Cge x k (X.length + (Y.length + 2)) Eh (by rw [Ebs]; simp [gw])
    by_cases hgo : q < L.length ∧ geL L k q = true
    ·have hq1 := hgo.1
     have hd : decide (k ≤ nth L q) = true := hgo.2
     repeat' (first|((first|refine wA ?_ ?_|refine wB ?_ ?_)<;>intro hc<;>try simp at hc)|refine wF ?_|refine wY ?_|refine wL ?_|refine owe ?_ fun ho=>?_|(simp (config := { maxSteps := 2000000 }) (disch := first|exact DD|fail) [E0, E1, E2, E5, E4, Ebs, D0, D1, D2, D4, C0, C2, C30, C31, eI, Ebs, hcl, hd, app_at, app_at0, app_set, app_set0, gw, gws, Nat.add_assoc, -getElem?_pos, gZ, gS]))
     exact Eih (Em - 1) _ _ (by omega) ⟨q + 1, by simp [E0, E1, E2, E5, E4, Ebs, D0, D1, D2, D4, C0, C2, C30, C31, A0, A2, A12, A13, A14, hb3], by simp [E0, E1, E2, E5, E4, Ebs, D0, D1, D2, D4, C0, C2, C30, C31, A0, A2, A12, A13, A14, hb3], by simp [E0, E1, E2, E5, E4, Ebs, D0, D1, D2, D4, C0, C2, C30, C31, A0, A2, A12, A13, A14, hb3], by simp [E0, E1, E2, E5, E4, Ebs, D0, D1, D2, D4, C0, C2, C30, C31, A0, A2, A12, A13, A14, hb3], by simp [E0, E1, E2, E5, E4, Ebs, D0, D1, D2, D4, C0, C2, C30, C31, A0, A2, A12, A13, A14, hb3], by simp [E0, E1, E2, E5, E4, Ebs, D0, D1, D2, D4, C0, C2, C30, C31, A0, A2, A12, A13, A14, hb3], by omega, by omega, (fun j h1 h2 => by (by_cases e : j = q; (subst e; exact hgo.2); exact hall j h1 (by omega)))⟩
    have hstop : q < L.length → geL L k q = false := fun h => by
     cases h2 : geL L k q with
     | false => rfl
     | true => exact absurd ⟨h, h2⟩ hgo
    by_cases hiq : i < q
    ·have hst2 : i = 0 ∨ geL L k (i - 1) = false := by
      rcases hst with h | h | h
      ·exact .inl h
      ·omega
      ·exact .inr h
     have r : Run (geL L k) L.length i q := ⟨hiq, hq.2, hall, hst2, by (rcases Nat.lt_or_ge q L.length with h | h; exact .inr (hstop h); exact .inl (by omega))⟩
     rw [hk] at r
     have hrun := sT_run r
     have hown := sT_skip (L := L) (c := c) (i := q) (by rw [← hk]; exact hstop)
     have hsl : ∀ h, sliceV Tryz.prog 36 h (.slice (X.length + 1) 0 L.length 1) (some (.int .i64 (i : Int))) (some (.int .i64 (q : Int))) (some (.int .i64 (q : Int))) = some (.slice (X.length + 1) i (q - i) 1) := by
      intro h
      simp [sliceV, bound, hq.2, hq.1]
      try omega
     by_cases hql : q < L.length
     ·have hd : decide (k ≤ nth L q) = false := hstop hql
      repeat' (first|((first|refine wA ?_ ?_|refine wB ?_ ?_)<;>intro hc<;>try simp at hc)|refine wF ?_|refine wY ?_|refine wL ?_|refine owe ?_ fun ho=>?_|(simp (config := { maxSteps := 2000000 }) (disch := first|exact DD|fail) [E0, E1, E2, E5, E4, Ebs, D0, D1, D2, D4, C0, C2, C30, C31, eI, Ebs, hcl, hd, hsl, app_at, app_at0, app_set, app_set0, gw, gws, Nat.add_assoc, -I77, -getElem?_pos, gZ, gS]))
      refine Wrev _ (X.length + 1) i (q - i) L.length (sT L c i) (by simp [app_at0]) (by omega) (by omega) ?_
      rw [show i + (q - i) = q by omega, hrun, hown]
      repeat' (first|((first|refine wA ?_ ?_|refine wB ?_ ?_)<;>intro hc<;>try simp at hc)|refine wF ?_|refine wY ?_|refine wL ?_|refine owe ?_ fun ho=>?_|(simp (config := { maxSteps := 2000000 }) (disch := first|exact DD|fail) [E0, E1, E2, E5, E4, Ebs, D0, D1, D2, D4, C0, C2, C30, C31, app_at, app_at0, app_set, app_set0, gw, gws, Nat.add_assoc, -getElem?_pos, gZ, gS]))
      exact Dih (L.length - q) _ _ (by omega) ⟨q + 1, W ++ [.cells [.int .i64 i, .int .i64 q]], by simp [E0, E1, E2, E5, E4, Ebs, D0, D1, D2, D4, C0, C2, C30, C31, A0, A2, A12, A13, A14, hown, Ebs], by simp [E0, E1, E2, E5, E4, Ebs, D0, D1, D2, D4, C0, C2, C30, C31, A0, A2, A12, A13, A14, hown, Ebs], by simp [E0, E1, E2, E5, E4, Ebs, D0, D1, D2, D4, C0, C2, C30, C31, A0, A2, A12, A13, A14, hown, Ebs], by simp [E0, E1, E2, E5, E4, Ebs, D0, D1, D2, D4, C0, C2, C30, C31, A0, A2, A12, A13, A14, hown, Ebs], (by simp [app_set0]), by omega, (by rcases Nat.lt_or_ge q L.length with h | h; exact .inr (.inr (by simpa using hstop h)); exact .inr (.inl (by omega)))⟩
     ·repeat' (first|((first|refine wA ?_ ?_|refine wB ?_ ?_)<;>intro hc<;>try simp at hc)|refine wF ?_|refine wY ?_|refine wL ?_|refine owe ?_ fun ho=>?_|(simp (config := { maxSteps := 2000000 }) (disch := first|exact DD|fail) [E0, E1, E2, E5, E4, Ebs, D0, D1, D2, D4, C0, C2, C30, C31, eI, Ebs, hcl, hsl, app_at, app_at0, app_set, app_set0, gw, gws, Nat.add_assoc, -I77, -getElem?_pos, gZ, gS]))
      refine Wrev _ (X.length + 1) i (q - i) L.length (sT L c i) (by simp [app_at0]) (by omega) (by omega) ?_
      rw [show i + (q - i) = q by omega, hrun, hown]
      repeat' (first|((first|refine wA ?_ ?_|refine wB ?_ ?_)<;>intro hc<;>try simp at hc)|refine wF ?_|refine wY ?_|refine wL ?_|refine owe ?_ fun ho=>?_|(simp (config := { maxSteps := 2000000 }) (disch := first|exact DD|fail) [E0, E1, E2, E5, E4, Ebs, D0, D1, D2, D4, C0, C2, C30, C31, app_at, app_at0, app_set, app_set0, gw, gws, Nat.add_assoc, -getElem?_pos, gZ, gS]))
      exact Dih (L.length - q) _ _ (by omega) ⟨q + 1, W ++ [.cells [.int .i64 i, .int .i64 q]], by simp [E0, E1, E2, E5, E4, Ebs, D0, D1, D2, D4, C0, C2, C30, C31, A0, A2, A12, A13, A14, hown, Ebs], by simp [E0, E1, E2, E5, E4, Ebs, D0, D1, D2, D4, C0, C2, C30, C31, A0, A2, A12, A13, A14, hown, Ebs], by simp [E0, E1, E2, E5, E4, Ebs, D0, D1, D2, D4, C0, C2, C30, C31, A0, A2, A12, A13, A14, hown, Ebs], by simp [E0, E1, E2, E5, E4, Ebs, D0, D1, D2, D4, C0, C2, C30, C31, A0, A2, A12, A13, A14, hown, Ebs], (by simp [app_set0]), by omega, (by rcases Nat.lt_or_ge q L.length with h | h; exact .inr (.inr (by simpa using hstop h)); exact .inr (.inl (by omega)))⟩
    ·obtain rfl : q = i := by omega
     have hd : decide (k ≤ nth L q) = false := hstop hi2
     have hown := sT_skip (L := L) (c := c) (i := q) (by rw [← hk]; exact hstop)
     repeat' (first|((first|refine wA ?_ ?_|refine wB ?_ ?_)<;>intro hc<;>try simp at hc)|refine wF ?_|refine wY ?_|refine wL ?_|refine owe ?_ fun ho=>?_|(simp (config := { maxSteps := 2000000 }) (disch := first|exact DD|fail) [E0, E1, E2, E5, E4, Ebs, D0, D1, D2, D4, C0, C2, C30, C31, eI, Ebs, hcl, hd, app_at, app_at0, app_set, app_set0, gw, gws, Nat.add_assoc, -getElem?_pos, gZ, gS]))
     exact Dih (Dm - 1) _ _ (by omega) ⟨q + 1, W, by simp [E0, E1, E2, E5, E4, Ebs, D0, D1, D2, D4, C0, C2, C30, C31, A0, A2, A12, A13, A14, hown, Ebs], by simp [E0, E1, E2, E5, E4, Ebs, D0, D1, D2, D4, C0, C2, C30, C31, A0, A2, A12, A13, A14, hown, Ebs], by simp [E0, E1, E2, E5, E4, Ebs, D0, D1, D2, D4, C0, C2, C30, C31, A0, A2, A12, A13, A14, hown, Ebs], by simp [E0, E1, E2, E5, E4, Ebs, D0, D1, D2, D4, C0, C2, C30, C31, A0, A2, A12, A13, A14, hown, Ebs], (by simp [hown, Ebs, app_set0]), by omega, .inr (.inr (by simpa using hstop hi2))⟩
   ·have hal := sT_all (L := L) (c := c) (i := i) (by omega)
    rw [hal] at hb3
    repeat' (first|((first|refine wA ?_ ?_|refine wB ?_ ?_)<;>intro hc<;>try simp at hc)|refine wF ?_|refine wY ?_|refine wL ?_|refine owe ?_ fun ho=>?_|(simp (config := { maxSteps := 2000000 }) (disch := first|exact DD|fail) [D0, D1, D2, D4, C0, C2, C30, C31, A0, A2, A12, A13, A14, hb3, app_at, app_at0, app_set, app_set0, gw, gws, Nat.add_assoc, -getElem?_pos, gZ, gS]))
    refine Cih (Cm - 1) _ _ _ (by omega) ⟨c + 1, Y ++ ?b1 :: ?b2 :: ?b3 :: .dfr true :: ?b5 :: W, (Y.length + 3) :: ms, by simp [C0, C2, C30, C31, A0, A2, A12, A13, A14], by simp [C0, C2, C30, C31, A0, A2, A12, A13, A14], by simp [C0, C2, C30, C31, A0, A2, A12, A13, A14], by simp [C0, C2, C30, C31, A0, A2, A12, A13, A14], ?hb, by omega, hmk.new rfl, by (simp [mkD_cons]; omega)⟩
    case hb => rfl
  ·obtain rfl : c = 2 := by omega
   rw [oT_two] at hb2
   repeat' (first|((first|refine wA ?_ ?_|refine wB ?_ ?_)<;>intro hc<;>try simp at hc)|refine wF ?_|refine wY ?_|refine wL ?_|refine owe ?_ fun ho=>?_|(simp (disch := first|exact DD|fail) [C0, C2, C30, C31, A0, A2, A12, A13, A14, hb2, -getElem?_pos, gZ, gS]))
   obtain ⟨bs', l1, l2⟩ := hmk.leave (D := Di cfg) (m := .ret) (ts := Ch.ts) (L := .cells [.slice (X.length + 1) 0 L.length 1] :: (X ++ [.cells (tab L.length (cI fun i => (ordF L i : Int)))])) (R := []) (k := X.length + 2) (by simp)
   have l3 := l2 0 [.slice (X.length + 1) 0 L.length 1] (by simp)
   have l4 := l2 (X.length + 1) (tab L.length (cI fun i => (ordF L i : Int))) (by simp)
   simp only [List.append_nil, List.cons_append, List.append_assoc, List.nil_append] at l1
   simp (disch := first|exact DD|fail) [-getElem?_pos, gZ, gS, l1, l3]
   rw [h2]
   exact outS_slT (E := eI) (L := rowF L.length fun i => (ordF L i : Int)) (by simp) (by rw [rowF_cI]; exact l4) (fun _ => rfl) (fun _ _ => rfl)
@[simp] theorem S48 (L : List Int) (hs : L.length < 1099511627776) (q1 : Fl) (hh : Heap) : Ci cfg (.func (.func 48) [] []) [R  q1 eI L] hh = some (.ret (.tuple [R fl0 eI (ordS L).1, .int .i64 (ordS L).2]), hh) :=
 Ci_K cfg rfl rfl (by simp) (by simp) (C48 L hs)
end Go.Ab
namespace Go.Ab
open Go.Proofs
set_option maxRecDepth 100000
set_option maxHeartbeats 4000000
theorem lev_ok {s : List UInt8} (right : Bool) (h : (runesG s).2 = 0) : (levS (runesG s).1 right).2 = 0 ∧ (levS (runesG s).1 right).1.length = (runesG s).1.length ∧ (ordS (levS (runesG s).1 right).1).2 = 0 ∧ (runesG s).1.length ≤ 4096 ∧
  (ordS (levS (runesG s).1 right).1).1 = rowF (runesG s).1.length (fun i => (ordF (levS (runesG s).1 right).1 i : Int)) := by
 obtain ⟨h1, h2⟩ := runesG_all h
 obtain ⟨h3, h4⟩ := runes_enc' h2
 have h5 := runes_len _ _ _ (Nat.le_refl _) h2
 generalize (runesG s).1 = l at *
 have hok : okK l = true := okK_true fun i hi => by
  have := List.all_eq_true.1 h4 _ (nth_mem hi)
  unfold kindG; rw [if_pos this]
 have hL : levS l right = (lvL (baseF right) (rawL right l), 0) := by unfold levS; rw [if_neg (by omega), if_pos hok]
 have hr := levS_range (l := l) (right := right)
 rw [hL] at hr ⊢
 have hln : (lvL (baseF right) (rawL right l)).length = l.length := by rw [lvL_len, rawL_len]
 have hO := lev_good (L := lvL (baseF right) (rawL right l)) (fun i hi => hr _ (nth_mem hi)) (by omega)
 refine ⟨rfl, hln, ?_, by omega, ?_⟩
 ·show (ordS (lvL (baseF right) (rawL right l))).2 = 0
  rw [hO]
 ·show (ordS (lvL (baseF right) (rawL right l))).1 = rowF l.length (fun i => (ordF (lvL (baseF right) (rawL right l)) i : Int))
  rw [hO, hln]
def shownL (l : List Int) (L : List Int) : List Int := rowF l.length (fun i => nth l (ordF L i))
def showS (s : List UInt8) (right : Bool) : List UInt8 × Int := if (runesG s).2 = 0 then joinG (shownL (runesG s).1 (levS (runesG s).1 right).1) else ([], (runesG s).2)
theorem shown_take (l L : List Int) (i : Nat) : rowF (i + 1) (fun i => nth l (ordF L i)) = rowF i (fun i => nth l (ordF L i)) ++ [nth l (ordF L i)] := by unfold rowF; rw [List.range_succ, List.map_append]; rfl
theorem C139 (s : List UInt8) (right : Bool) (hs : s.length < 1099511627776) : Kc cfg 139 [.str s, .bool right] (.ret (.tuple [.str (showS s right).1, .int .i64 (showS s right).2])) := by
 by_cases he : (runesG s).2 = 0
 ·obtain ⟨k1, k2, k3, k4, k5⟩ := lev_ok right he
  have hS : showS s right = joinG (shownL (runesG s).1 (levS (runesG s).1 right).1) := by unfold showS; rw [if_pos he]
  rw [hS]
  generalize hl : (runesG s).1 = l at *
  generalize hL : (levS l right).1 = L at *
  have hsl : l.length < 1099511627776 := by omega
  have hsL : L.length < 1099511627776 := by omega
  have hrl : (rowF l.length (fun i => (ordF L i : Int))).length = l.length := by simp
  have hrn := fun i (h : i < l.length) => nth_rowF (g := fun i => (ordF L i : Int)) h
  have holt := fun i (h : i < l.length) => ordF_lt (L := L) (i := i) (by omega)
  generalize hW : rowF l.length (fun i => (ordF L i : Int)) = W at *
  refine outS_of_wp cfg (fn := Tryz.f139) Tryz.func139 rfl (by simp [Tryz.f139]) ?_
  simp (disch := first|exact DD|fail) [-getElem?_pos, gZ, gS, Tryz.f139, he, hl, hL, k1, k3, k5]
  repeat' (first|((first|refine wA ?_ ?_|refine wB ?_ ?_)<;>intro hc<;>try simp at hc)|refine wF ?_|refine wY ?_|refine wL ?_|refine owe ?_ fun ho=>?_|(simp (disch := first|exact DD|fail) [he, hl, hL, k1, k3, k5, -getElem?_pos, gZ, gS]))
  refine wp_loopE cfg rfl (fun f0 h0 m fr h => ∃ i : Nat, ∃ fl : Fl, fr 6 = f0 6 ∧ fr 37 = f0 37 ∧ fr 38 = f0 38 ∧ fr 9 = R fl eI (rowF i (fun i => nth l (ordF L i))) ∧ fr 39 = .int .i64 i ∧ (App h.ts 1 fl) ∧ (i + m = l.length)) (l.length) _ _ ⟨0, (true, true, none), rfl, rfl, rfl, by first | rfl | (simp; done) | (simp [R]; done) | simp [R], by first | rfl | (simp; done) | (simp [R]; done) | simp [R], App.nil _ _ _, by first | rfl | (simp; done) | omega⟩ ?_
  rintro Am Af Ah ⟨i, fl, A6, A37, A38, A9, A39, hap, hm⟩ Aih
  try simp at A6 A37 A38
  by_cases hi : i < l.length
  ·have hst := shown_take l L i
   have hrni := hrn i hi
   have hlt := holt i hi
   have hlt2 : ordF L i < l.length := by omega
   have hrf : (rowF i (fun i => nth l (ordF L i))).length = i := rowF_len _ _
   repeat' (first|((first|refine wA ?_ ?_|refine wB ?_ ?_)<;>intro hc<;>try simp at hc)|refine wF ?_|refine wY ?_|refine wL ?_|refine owe ?_ fun ho=>?_|(simp (disch := first|exact DD|fail) [A6, A37, A38, A9, A39, eI, hrni, fold_I1, -getElem?_pos, gZ, gS]))
   exact Aih (Am - 1) _ _ (by omega) ⟨i + 1, _, by simp [A6, A37, A38, A9, A39, hst], by simp [A6, A37, A38, A9, A39, hst], by simp [A6, A37, A38, A9, A39, hst], by simp [A6, A37, A38, A9, A39, hst], by simp [A6, A37, A38, A9, A39, hst], App.new _ _ _, by omega⟩
  ·obtain rfl : i = l.length := by omega
   have hsh : rowF l.length (fun i => nth l (ordF L i)) = shownL l L := rfl
   have hll : (shownL l L).length ≤ 4294967296 := by simp [shownL]; omega
   rw [hsh] at A9
   repeat' (first|((first|refine wA ?_ ?_|refine wB ?_ ?_)<;>intro hc<;>try simp at hc)|refine wF ?_|refine wY ?_|refine wL ?_|refine owe ?_ fun ho=>?_|(simp (disch := first|exact DD|fail) [A6, A37, A38, A9, A39, -getElem?_pos, gZ, gS]))
 ·have hS : showS s right = ([], (runesG s).2) := by unfold showS; rw [if_neg he]
  rw [hS]
  refine outS_of_wp cfg (fn := Tryz.f139) Tryz.func139 rfl (by simp [Tryz.f139]) ?_
  simp (disch := first|exact DD|fail) [-getElem?_pos, gZ, gS, Tryz.f139, he]
  repeat' (first|((first|refine wA ?_ ?_|refine wB ?_ ?_)<;>intro hc<;>try simp at hc)|refine wF ?_|refine wY ?_|refine wL ?_|refine owe ?_ fun ho=>?_|(simp (disch := first|exact DD|fail) [he, -getElem?_pos, gZ, gS]))
@[simp] theorem S139 (s : List UInt8) (right : Bool) (hs : s.length < 1099511627776) (hh : Heap) : Ci cfg (.func (.func 139) [] []) [.str s, .bool right] hh = some (.ret (.tuple [.str (showS s right).1, .int .i64 (showS s right).2]), hh) :=
 Ci_K cfg rfl rfl (by simp) (by simp) (C139 s right hs)
end Go.Ab
