/- A part of the proof. -/
import Derived.Test.YtlmhbemgaikmaaaGreatDoorAbsD
import Derived.Test.YtlmhbemgaikmaaaGreatDoorGr32
import Derived.Test.YtlmhbemgaikmaaaGreatDoorGr23
set_option linter.unusedVariables false
set_option linter.unusedSimpArgs false
set_option linter.unusedSectionVars false
set_option linter.deprecated false
namespace Go.Ab
set_option maxRecDepth 100000
theorem execOps_any {c : Cfg} {ops : Array Oper} : ∀ (l : List Nat) (i : Nat) (s : St), (∀ j ∈ l, j < ops.size) → execOps c (Ci c) false ops l s = execL c false ops i (l.filterMap (fun j => ops.toList[j]?)) s
 | [], i, s, _ => rfl
 | j :: l, i, s, h => by
  have hj := h j List.mem_cons_self
  have ho : ops[j]? = some ops[j] := by simp [hj]
  have ho2 : ops.toList[j]? = some ops[j] := by simp [hj]
  have ih := fun s => execOps_any (c := c) l (i + 1) s (fun x hx => h x (List.mem_cons_of_mem _ hx))
  rw [List.filterMap_cons, ho2, execOps, execL, ho]
  simp only [ih, Bool.false_and, Bool.false_eq_true, if_false]
  cases wantedV ops ops[j] s.t with
  | none => rfl
  | some b => cases b with
   | false => rfl
   | true =>
    simp only
    cases opR c s.h (evT c s.t) ops[j] with
    | none => rfl
    | some r => cases r <;> rfl
def panQ (v : V) (P : St → Prop) (ax : Ax) (s : St) : Prop := ax = .panic v ∧ P s
theorem semP_wo {c : Cfg} {ops : Array Oper} {l : List Nat} {s : St} {v : V} {P : St → Prop} (hl : ∀ j ∈ l, j < ops.size) (h : wo c false ops 0 (l.filterMap (fun j => ops.toList[j]?)) s [] (panQ v P)) :
  ∃ s', execOps c (Ci c) false ops l s = some (.panic v, s') ∧ P s' := by
 rw [execOps_any l 0 s hl]
 unfold wo at h
 simp only [thr] at h
 cases hx : execL c false ops 0 (l.filterMap (fun j => ops.toList[j]?)) s with
 | none => rw [hx] at h; cases h
 | some y =>
  obtain ⟨ax, s'⟩ := y
  rw [hx] at h
  obtain ⟨rfl, h2⟩ := h
  exact ⟨s', rfl, h2⟩
theorem killT_put {D : List Nat} {t : List V} {d : Nat} {v : V} (h : d ∈ D) : killT D (putT t (some d) v) = killT D t := by
 apply List.ext_getElem?
 intro i
 rw [killT_get, killT_get, putT_len]
 by_cases e : i ∈ D ∧ i < t.length
 ·rw [if_pos e, if_pos e]
 ·rw [if_neg e, if_neg e]
  by_cases hd : d = i
  ·subst hd
   have : ¬ d < t.length := fun x => e ⟨h, x⟩
   simp only [putT]
   rw [List.getElem?_eq_none (by simpa using this), List.getElem?_eq_none (by simpa using this)]
  ·exact putT_get (by simpa using hd)
theorem flat_put {ops : Array Oper} {t : List V} {h : Heap} {d : List Def} {p : Pan} {ro : Option Nat} {x : Nat} {v : V} (hx : x ∈ writtenOps ops.toList) : flatS ops ⟨putT t (some x) v, h, d, p, ro⟩ = flatS ops ⟨t, h, d, p, ro⟩ := by
 unfold flatS; simp only [killT_put hx]
theorem upd_put (n : Nat) (f : Nat → V) (i : Nat) (v : V) : tab n (upd f i v) = putT (tab n f) (some i) v := (putT_tab n f i v).symm
end Go.Ab
namespace Go.Ab
open Go.Proofs
set_option maxRecDepth 100000
set_option maxHeartbeats 4000000
theorem orN : ordersG (drawAt Tryz.f13 0) (drawAt Tryz.f13 0).size (Array.replicate (drawAt Tryz.f13 0).size false) = [[0, 1, 2, 3, 4, 5, 6], [0, 2, 1, 3, 4, 5, 6], [0, 2, 3, 1, 4, 5, 6], [2, 0, 1, 3, 4, 5, 6], [2, 0, 3, 1, 4, 5, 6], [2, 3, 0, 1, 4, 5, 6]] := by kernel_rfl
theorem wrN : writtenOps (drawAt Tryz.f13 0).toList = [8, 9, 10, 11, 12] := by kernel_rfl
def FlatN (s0 s' : St) : Prop := flatS (drawAt Tryz.f13 0) s' = flatS (drawAt Tryz.f13 0) s0
theorem regN {v : VwZ} {s : List UInt8} {f : Nat → V} {bs : List Blk} {ts : List (Option Nat)} {d : List Def} {p : Pan} {ro : Option Nat} (hl : s.length < 1099511627776)
  (h2 : f 2 = .ptr 0 0) (h1 : f 1 = .str s) (he : ¬ (runesG s).2 = 0) :
  SemP cfg (Ci cfg) (drawAt Tryz.f13 0) ⟨tab 13 f, ⟨.cells (cellsV v) :: bs, ts⟩, d, p, ro⟩ (.iface 37 (.int .i64 (runesG s).2)) (flatS (drawAt Tryz.f13 0) ⟨tab 13 f, ⟨.cells (cellsV v) :: bs, ts⟩, d, p, ro⟩) := by
 have hp := pointsW_bad he
 intro l hl2
 rw [orN] at hl2
 simp only [List.mem_cons, List.not_mem_nil, or_false] at hl2
 rcases hl2 with rfl | rfl | rfl | rfl | rfl | rfl
 all_goals
  refine semP_wo (P := FlatN ⟨tab 13 f, ⟨.cells (cellsV v) :: bs, ts⟩, d, p, ro⟩) (by decide +kernel) ?_
  simp only [Tryz.f13, drawAt, drawsOf, codeOf, Option.getD, List.append, List.nil_append, List.cons_append, List.append_nil, List.getD, gZ, gS, List.filterMap_cons, List.filterMap_nil]
  repeat' (first|((first|refine wA ?_ ?_|refine wB ?_ ?_)<;>intro hc<;>try simp at hc)|refine wF ?_|refine wY ?_|refine wL ?_|refine owe ?_ fun ho=>?_|(simp (disch := first|exact DD|fail) [h1, h2, hp, cellsV, -getElem?_pos, gZ, gS]))
  refine ⟨rfl, ?_⟩
  unfold FlatN
  simp only [upd_put]
  repeat rw [flat_put (by rw [wrN]; decide)]
def valN (v : VwZ) (s : List UInt8) (m : Nat) : V := match m with
 | 0 => .ptr 0 5 | 1 => .int .i64 v.speed | 2 => .str s | 3 => .int .i64 (runesG s).1.length | 4 => .int .i64 (v.speed * (runesG s).1.length) | 5 => .int .i64 (v.speed * (runesG s).1.length) | _ => .tuple []
theorem regN_ok {v : VwZ} {s : List UInt8} {f : Nat → V} {ts : List (Option Nat)} {d : List Def} {p : Pan} {ro : Option Nat} (hl : s.length < 1099511627776)
  (h2 : f 2 = .ptr 0 0) (h1 : f 1 = .str s) (h5 : f 5 = .ptr 1 0) (hv : vwR v = true) (he : (runesG s).2 = 0) :
  SemOk cfg (Ci cfg) (drawAt Tryz.f13 0) ⟨tab 13 f, ⟨[.cells (cellsV v), .cells [.int .i64 0]], ts⟩, d, p, ro⟩ := by
 have hp := pointsW_ok he
 have hw := need_wrap s hv
 refine semOk_list (valN v s) (fun _ => ⟨[.cells (cellsV v), .cells [.int .i64 0]], ts⟩) (by kernel_rfl) (by kernel_rfl) (by kernel_rfl) rfl ?_ (fun _ _ _ => rfl)
 refine ⟨?_, ?_, ?_, ?_, ?_, ?_, ?_, trivial⟩
 all_goals intro S ev hcl haf hS he
 ·have x2 : ev (.tmp 2) = .ptr 0 0 := by rw [ev_old he 2 (by kernel_rfl), ← h2]; rfl
  simp (disch := first|exact DD|fail) [-getElem?_pos, gZ, gS, eff, opR, he.const, ofVal, x2, valN]
 ·have x8 : ev (.tmp 8) = .ptr 0 5 := ev_by he haf 0 8 (by kernel_rfl) (by simp [valN])
  simp (disch := first|exact DD|fail) [-getElem?_pos, gZ, gS, eff, opR, he.const, ofVal, x8, valN, cellsV]
 ·have x1 : ev (.tmp 1) = .str s := by rw [ev_old he 1 (by kernel_rfl), ← h1]; rfl
  simp (disch := first|exact DD|fail) [-getElem?_pos, gZ, gS, eff, opR, he.const, ofVal, x1, valN]
 ·have x10 : ev (.tmp 10) = .str s := ev_by he haf 2 10 (by kernel_rfl) (by simp [valN])
  have xf := he.func 42
  simp (disch := first|exact DD|fail) [-getElem?_pos, gZ, gS, eff, opR, he.const, ofVal, x10, xf, valN, hp]
 ·have x9 : ev (.tmp 9) = .int .i64 v.speed := ev_by he haf 1 9 (by kernel_rfl) (by simp [valN])
  have x11 : ev (.tmp 11) = .int .i64 (runesG s).1.length := ev_by he haf 3 11 (by kernel_rfl) (by simp [valN])
  simp (disch := first|exact DD|fail) [-getElem?_pos, gZ, gS, eff, opR, he.const, ofVal, x9, x11, valN, hw]
 ·have x12 : ev (.tmp 12) = .int .i64 (v.speed * (runesG s).1.length) := ev_by he haf 4 12 (by kernel_rfl) (by simp [valN])
  simp (disch := first|exact DD|fail) [-getElem?_pos, gZ, gS, eff, opR, he.const, ofVal, x12, valN]
 ·have x5 : ev (.tmp 5) = .ptr 1 0 := by rw [ev_old he 5 (by kernel_rfl), ← h5]; rfl
  simp (disch := first|exact DD|fail) [-getElem?_pos, gZ, gS, eff, opR, he.const, ofVal, x5, valN]
end Go.Ab
namespace Go.Ab
open Go.Proofs
set_option maxRecDepth 100000
set_option maxHeartbeats 4000000
theorem C13 (v : VwZ) (s : List UInt8) (hs : smVw v) (hl : s.length < 1099511627776) : Kc cfg 13 [.agg [.int .i64 v.no, .int .i64 v.lang, .int .i64 v.lines, .int .i64 v.room, .int .i64 v.cells, .int .i64 v.speed, .bool v.right, R fl0 eG v.font.gs, .int .i64 v.font.other, R fl0 eK v.font.ks, R fl0 eZ v.signs, .int .i64 v.scr.w, .int .i64 v.scr.h, R fl0 eQ v.scr.bl], .str s] (.ret (.tuple [.int .i64 (needW v s).1, .int .i64 (needW v s).2])) := by
 cases hv : vwR v with
 | false =>
  have hF : needW v s = (0, 450) := by unfold needW; rw [if_neg (by simp [hv])]
  have ho := ofW_bad hv
  rw [hF]
  refine outS_of_wp cfg (fn := Tryz.f13) Tryz.func13 rfl (by simp [Tryz.f13]) ?_
  simp (disch := first|exact DD|fail) [-getElem?_pos, gZ, gS, Tryz.f13, ho, emptyH]
  repeat' (first|((first|refine wA ?_ ?_|refine wB ?_ ?_)<;>intro hc<;>try simp at hc)|refine wF ?_|refine wY ?_|refine wL ?_|refine owe ?_ fun ho=>?_|(simp (disch := first|exact DD|fail) [ho, emptyH, -getElem?_pos, gZ, gS]))
 | true =>
  have ho := ofW_ok hv
  have hw := need_wrap s hv
  by_cases he : (runesG s).2 = 0
  ·have hp := pointsW_ok he
   have hF : needW v s = (v.speed * (runesG s).1.length, 0) := by unfold needW; rw [if_pos hv, he]
   rw [hF]
   refine outS_of_wp cfg (fn := Tryz.f13) Tryz.func13 rfl (by simp [Tryz.f13]) ?_
   simp (disch := first|exact DD|fail) [-getElem?_pos, gZ, gS, Tryz.f13, emptyH]
   repeat' (first | ((first | refine wA ?_ ?_ | refine wB ?_ ?_) <;> intro hc <;> try simp at hc) | refine wY ?_ | refine wL ?_ | refine owe ?_ fun ho => ?_ | (simp (disch := first|exact DD|fail) [ho, emptyH, -getElem?_pos, gZ, gS]))
   refine wp_sem (by kernel_rfl) (regN_ok (v := v) hl (by simp) (by simp) (by simp) hv he) ?_
   simp only [Tryz.f13, drawAt, drawsOf, codeOf, Option.getD, List.append, List.nil_append, List.cons_append, List.append_nil, List.getD, gZ, gS]
   repeat' (first|((first|refine wA ?_ ?_|refine wB ?_ ?_)<;>intro hc<;>try simp at hc)|refine wF ?_|refine wY ?_|refine wL ?_|refine owe ?_ fun ho=>?_|(simp (disch := first|exact DD|fail) [hp, hw, cellsV, -getElem?_pos, gZ, gS]))
  ·have hp := pointsW_bad he
   have hF : needW v s = (0, (runesG s).2) := by unfold needW; rw [if_pos hv, runesG_bad he]; simp
   rw [hF]
   refine outS_of_wp cfg (fn := Tryz.f13) Tryz.func13 rfl (by simp [Tryz.f13]) ?_
   simp (disch := first|exact DD|fail) [-getElem?_pos, gZ, gS, Tryz.f13, emptyH]
   repeat' (first | ((first | refine wA ?_ ?_ | refine wB ?_ ?_) <;> intro hc <;> try simp at hc) | refine wY ?_ | refine wL ?_ | refine owe ?_ fun ho => ?_ | (simp (disch := first|exact DD|fail) [ho, emptyH, -getElem?_pos, gZ, gS]))
   refine wp_semP (by kernel_rfl) (regN (v := v) hl (by simp) (by simp) he) (fun s' hs' => ?_)
   obtain ⟨t', h', d', p', ro'⟩ := s'
   unfold flatS at hs'
   simp only [St.mk.injEq] at hs'
   obtain ⟨e1, rfl, rfl, rfl, rfl⟩ := hs'
   have e2 : killT [8, 9, 10, 11, 12] t' = killT [8, 9, 10, 11, 12] _ := e1
   have e4 : t'[4]?.getD .undef = .int .i64 0 := by
    have := congrArg (fun t => t[4]?) e2
    simp only [killT_get] at this
    rw [if_neg (by simp), if_neg (by simp)] at this
    rw [this, tab_get]
    simp
   have e5 : t'[5]?.getD .undef = .ptr 1 0 := by
    have := congrArg (fun t => t[5]?) e2
    simp only [killT_get] at this
    rw [if_neg (by simp), if_neg (by simp)] at this
    rw [this, tab_get]
    simp
   simp (disch := first|exact DD|fail) [-getElem?_pos, gZ, gS, cellsV, readRes, e4, e5]
@[simp] theorem S13 (v : VwZ) (s : List UInt8) (hs : smVw v) (hl : s.length < 1099511627776) (q1 q2 q3 q4 : Fl) (hh : Heap) : Ci cfg (.func (.func 13) [] []) [.agg [.int .i64 v.no, .int .i64 v.lang, .int .i64 v.lines, .int .i64 v.room, .int .i64 v.cells, .int .i64 v.speed, .bool v.right, R  q1 eG v.font.gs, .int .i64 v.font.other, R  q2 eK v.font.ks, R  q3 eZ v.signs, .int .i64 v.scr.w, .int .i64 v.scr.h, R  q4 eQ v.scr.bl], .str s] hh = some (.ret (.tuple [.int .i64 (needW v s).1, .int .i64 (needW v s).2]), hh) :=
 Ci_K cfg rfl rfl (by simp) (by simp) (C13 v s hs hl)
end Go.Ab
