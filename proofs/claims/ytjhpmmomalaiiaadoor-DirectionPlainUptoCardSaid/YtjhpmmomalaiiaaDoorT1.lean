import Derived.Test.YtjhpmmomalaiiaaDoorTBase
set_option linter.unusedVariables false
set_option linter.unusedSimpArgs false
set_option linter.unusedSectionVars false
set_option linter.deprecated false
namespace Go.Ab
open Go.Proofs
set_option maxRecDepth 10000
set_option maxHeartbeats 1000000

theorem take_next {α : Type} [Inhabited α] {a b : List α} {i : Nat} (h1 : i < a.length) (h2 : i < b.length) (h : a.take i = b.take i) (h3 : nth a i = nth b i) : a.take (i + 1) = b.take (i + 1) := by
  rw [nth_take h1, nth_take h2, h, h3]


/-- Is a number a code point? -/
def point (x : Int) : Bool := decide (0 ≤ x ∧ x ≤ 1114111 ∧ (x < 55296 ∨ 57343 < x))
@[simp] theorem point_t (x : Int) : point x = true ↔ 0 ≤ x ∧ x ≤ 1114111 ∧ (x < 55296 ∨ 57343 < x) := by simp [point]
@[simp] theorem point_f (x : Int) : point x = false ↔ ¬ (0 ≤ x ∧ x ≤ 1114111 ∧ (x < 55296 ∨ 57343 < x)) := by simp only [point, decide_eq_false_iff_not]
theorem C41 (x : Int) : Kc cfg 41 [.int .i64 x] (.ret (.bool (point x))) := by
  refine outS_of_wp cfg (fn := Tryd.f41) Tryd.func41 rfl (by simp [Tryd.f41]) ?_
  simp (disch := first | assumption | omega | (simp; done) | (simp; omega)) [-getElem?_pos, List.getElem?_cons_zero, List.getElem?_cons_succ, Tryd.f41]
  repeat' (first | (refine wpc_split _ (fun hc => ?_) (fun hc => ?_) <;> (try simp at hc)) | (refine ww_split _ (fun hc => ?_) (fun hc => ?_) <;> (try simp at hc)) | (refine wp_drawF (by kernel_rfl) ?_) | (refine wk_yldW _ ?_) | (refine layOwe _ (by kernel_rfl) ?_) | (refine owe ?_ (fun ho => ?_)) | (simp (disch := first | assumption | omega | (simp; done) | (simp; omega)) [-getElem?_pos, List.getElem?_cons_zero, List.getElem?_cons_succ]))
  all_goals grind [point]
@[simp] theorem S41 (x : Int) (hh : Heap) : Ci cfg (.func (.func 41) [] []) [.int .i64 x] hh = some (.ret (.bool (point x)), hh) :=
  Ci_K cfg rfl rfl (by simp) (by simp) (C41 x)
/-- how many bytes a first byte asks for, and its bits -/
def longR (b : Int) : Int × Int := if b < 128 then (1, b) else if 192 ≤ b ∧ b < 224 then (2, b - 192) else if 224 ≤ b ∧ b < 240 then (3, b - 224) else if 240 ≤ b ∧ b < 248 then (4, b - 240) else (0, 0)
theorem C53 (x : Int) (h0 : 0 ≤ x) (h1 : x ≤ 255) : Kc cfg 53 [.int .i64 x] (.ret (.tuple [.int .i64 (longR x).1, .int .i64 (longR x).2])) := by
  refine outS_of_wp cfg (fn := Tryd.f53) Tryd.func53 rfl (by simp [Tryd.f53]) ?_
  simp (disch := first | assumption | omega | (simp; done) | (simp; omega)) [-getElem?_pos, List.getElem?_cons_zero, List.getElem?_cons_succ, Tryd.f53]
  repeat' (first | (refine wpc_split _ (fun hc => ?_) (fun hc => ?_) <;> (try simp at hc)) | (refine ww_split _ (fun hc => ?_) (fun hc => ?_) <;> (try simp at hc)) | (refine wp_drawF (by kernel_rfl) ?_) | (refine wk_yldW _ ?_) | (refine layOwe _ (by kernel_rfl) ?_) | (refine owe ?_ (fun ho => ?_)) | (simp (disch := first | assumption | omega | (simp; done) | (simp; omega)) [-getElem?_pos, List.getElem?_cons_zero, List.getElem?_cons_succ]))
  all_goals (simp (disch := omega) [longR])
@[simp] theorem S53 (x : Int) (h0 : 0 ≤ x) (h1 : x ≤ 255) (hh : Heap) : Ci cfg (.func (.func 53) [] []) [.int .i64 x] hh = some (.ret (.tuple [.int .i64 (longR x).1, .int .i64 (longR x).2]), hh) :=
  Ci_K cfg rfl rfl (by simp) (by simp) (C53 x h0 h1)

/-- A byte, of a number. -/
def ib (n : Int) : UInt8 := UInt8.ofNat n.toNat
theorem ib_nat {n : Int} (h : 0 ≤ n ∧ n ≤ 255) : ((ib n).toNat : Int) = n := by
  unfold ib
  rw [UInt8.toNat_ofNat']
  omega
/-- The bytes of a code point. -/
def encR (r : Int) : List UInt8 :=
  if r < 128 then [ib r] else if r < 2048 then [ib (192 + r / 64), ib (128 + r % 64)]
  else if r < 65536 then [ib (224 + r / 4096), ib (128 + r / 64 % 64), ib (128 + r % 64)]
  else [ib (240 + r / 262144), ib (128 + r / 4096 % 64), ib (128 + r / 64 % 64), ib (128 + r % 64)]
theorem C45 (r : Int) (h0 : 0 ≤ r) (h1 : r ≤ 1114111) : Kc cfg 45 [.int .i64 r] (.ret (R fl0 eB (encR r))) := by
  refine outS_of_wp cfg (fn := Tryd.f45) Tryd.func45 rfl (by simp [Tryd.f45]) ?_
  simp (disch := first | assumption | omega | (simp; done) | (simp; omega)) [-getElem?_pos, List.getElem?_cons_zero, List.getElem?_cons_succ, Tryd.f45]
  repeat' (first | (refine wpc_split _ (fun hc => ?_) (fun hc => ?_) <;> (try simp at hc)) | (refine ww_split _ (fun hc => ?_) (fun hc => ?_) <;> (try simp at hc)) | (refine wp_drawF (by kernel_rfl) ?_) | (refine wk_yldW _ ?_) | (refine layOwe _ (by kernel_rfl) ?_) | (refine owe ?_ (fun ho => ?_)) | (simp (disch := first | assumption | omega | (simp; done) | (simp; omega)) [-getElem?_pos, List.getElem?_cons_zero, List.getElem?_cons_succ]))
  all_goals (simp (disch := omega) [encR, R, eB, ib_nat])
@[simp] theorem S45 (r : Int) (h0 : 0 ≤ r) (h1 : r ≤ 1114111) (hh : Heap) : Ci cfg (.func (.func 45) [] []) [.int .i64 r] hh = some (.ret (R fl0 eB (encR r)), hh) :=
  Ci_K cfg rfl rfl (by simp) (by simp) (C45 r h0 h1)

/-- The value of some bytes, the first of which asks for n. -/
def decV (s : List UInt8) (n : Nat) : Int := match n with
  | 1 => (nth s 0).toNat
  | 2 => ((nth s 0).toNat - 192) * 64 + (nth s 1).toNat - 128
  | 3 => (((nth s 0).toNat - 224) * 64 + (nth s 1).toNat - 128) * 64 + (nth s 2).toNat - 128
  | _ => ((((nth s 0).toNat - 240) * 64 + (nth s 1).toNat - 128) * 64 + (nth s 2).toNat - 128) * 64 + (nth s 3).toNat - 128
/-- Are bytes that follow the first one? -/
def conts (s : List UInt8) (n : Nat) : Prop := (2 ≤ n → 128 ≤ (nth s 1).toNat ∧ (nth s 1).toNat < 192) ∧ (3 ≤ n → 128 ≤ (nth s 2).toNat ∧ (nth s 2).toNat < 192) ∧ (4 ≤ n → 128 ≤ (nth s 3).toNat ∧ (nth s 3).toNat < 192)
instance (s : List UInt8) (n : Nat) : Decidable (conts s n) := by unfold conts; infer_instance
/-- The code point with which bytes begin, and how many bytes it has; 0: none. -/
def dec (s : List UInt8) : Int × Int :=
  let n := (longR (nth s 0).toNat).1.toNat
  if n = 0 ∨ s.length < n then (0, 0)
  else if conts s n ∧ point (decV s n) ∧ encR (decV s n) = s.take n then (decV s n, n) else (0, 0)
theorem dec_of {s : List UInt8} {n : Nat} {v : Int} (hl : longR (nth s 0).toNat = ((n : Int), v)) (h0 : 0 < n) :
    dec s = if n ≤ s.length ∧ conts s n ∧ point (decV s n) ∧ encR (decV s n) = s.take n then (decV s n, (n : Int)) else (0, 0) := by
  unfold dec
  simp only [hl, Int.toNat_natCast]
  by_cases h : s.length < n
  · rw [if_pos (.inr h), if_neg (by omega)]
  · rw [if_neg (by omega)]
    by_cases h2 : conts s n ∧ point (decV s n) ∧ encR (decV s n) = s.take n
    · rw [if_pos h2, if_pos ⟨by omega, h2⟩]
    · rw [if_neg h2, if_neg fun x => h2 x.2]
theorem dec_f1 {s : List UInt8} {n : Nat} (h : dec s = (0, 0)) : 0 = (dec s).1 ∧ 0 = (dec s).2 := by rw [h]; simp
theorem C44 (s : List UInt8) (hs : 0 < s.length) : Kc cfg 44 [.str s] (.ret (.tuple [.int .i64 (dec s).1, .int .i64 (dec s).2])) := by
  have g0 := UInt8.toNat_lt (nth s 0)
  have g1 := UInt8.toNat_lt (nth s 1)
  have g2 := UInt8.toNat_lt (nth s 2)
  have g3 := UInt8.toNat_lt (nth s 3)
  by_cases c1 : (nth s 0).toNat < 128
  · have hl : longR (nth s 0).toNat = (1, ((nth s 0).toNat : Int)) := by simp [longR]; omega
    have hd := dec_of (n := 1) (by simpa using hl) (by omega)
    refine outS_of_wp cfg (fn := Tryd.f44) Tryd.func44 rfl (by simp [Tryd.f44]) ?_
    simp (disch := first | assumption | omega | (simp; done) | (simp; omega)) [-getElem?_pos, List.getElem?_cons_zero, List.getElem?_cons_succ, Tryd.f44, hl]
    repeat' (first | (refine wp_unroll rfl ?_) | (refine wpc_split _ (fun hc => ?_) (fun hc => ?_) <;> (try simp at hc)) | (refine ww_split _ (fun hc => ?_) (fun hc => ?_) <;> (try simp at hc)) | (refine wp_drawF (by kernel_rfl) ?_) | (refine wk_yldW _ ?_) | (refine layOwe _ (by kernel_rfl) ?_) | (refine owe ?_ (fun ho => ?_)) | (simp (disch := first | assumption | omega | (simp; done) | (simp; omega)) [hl, -getElem?_pos, List.getElem?_cons_zero, List.getElem?_cons_succ]))
    all_goals (rw [hd]; simp [conts, decV]; grind)
  by_cases c2 : 192 ≤ (nth s 0).toNat ∧ (nth s 0).toNat < 224
  · have hl : longR (nth s 0).toNat = (2, ((nth s 0).toNat : Int) - 192) := by simp (disch := omega) [longR]
    have hd := dec_of (n := 2) (by simpa using hl) (by omega)
    refine outS_of_wp cfg (fn := Tryd.f44) Tryd.func44 rfl (by simp [Tryd.f44]) ?_
    simp (disch := first | assumption | omega | (simp; done) | (simp; omega)) [-getElem?_pos, List.getElem?_cons_zero, List.getElem?_cons_succ, Tryd.f44, hl]
    repeat' (first | (refine wp_unroll rfl ?_) | (refine wpc_split _ (fun hc => ?_) (fun hc => ?_) <;> (try simp at hc)) | (refine ww_split _ (fun hc => ?_) (fun hc => ?_) <;> (try simp at hc)) | (refine wp_drawF (by kernel_rfl) ?_) | (refine wk_yldW _ ?_) | (refine layOwe _ (by kernel_rfl) ?_) | (refine owe ?_ (fun ho => ?_)) | (simp (disch := first | assumption | omega | (simp; done) | (simp; omega)) [hl, -getElem?_pos, List.getElem?_cons_zero, List.getElem?_cons_succ]))
    all_goals (rw [hd]; simp [conts, decV]; grind)
  by_cases c3 : 224 ≤ (nth s 0).toNat ∧ (nth s 0).toNat < 240
  · have hl : longR (nth s 0).toNat = (3, ((nth s 0).toNat : Int) - 224) := by simp (disch := omega) [longR]
    have hd := dec_of (n := 3) (by simpa using hl) (by omega)
    refine outS_of_wp cfg (fn := Tryd.f44) Tryd.func44 rfl (by simp [Tryd.f44]) ?_
    simp (disch := first | assumption | omega | (simp; done) | (simp; omega)) [-getElem?_pos, List.getElem?_cons_zero, List.getElem?_cons_succ, Tryd.f44, hl]
    repeat' (first | (refine wp_unroll rfl ?_) | (refine wpc_split _ (fun hc => ?_) (fun hc => ?_) <;> (try simp at hc)) | (refine ww_split _ (fun hc => ?_) (fun hc => ?_) <;> (try simp at hc)) | (refine wp_drawF (by kernel_rfl) ?_) | (refine wk_yldW _ ?_) | (refine layOwe _ (by kernel_rfl) ?_) | (refine owe ?_ (fun ho => ?_)) | (simp (disch := first | assumption | omega | (simp; done) | (simp; omega)) [hl, -getElem?_pos, List.getElem?_cons_zero, List.getElem?_cons_succ]))
    all_goals (rw [hd]; simp [conts, decV]; grind)
  by_cases c4 : 240 ≤ (nth s 0).toNat ∧ (nth s 0).toNat < 248
  · have hl : longR (nth s 0).toNat = (4, ((nth s 0).toNat : Int) - 240) := by simp (disch := omega) [longR]
    have hd := dec_of (n := 4) (by simpa using hl) (by omega)
    refine outS_of_wp cfg (fn := Tryd.f44) Tryd.func44 rfl (by simp [Tryd.f44]) ?_
    simp (disch := first | assumption | omega | (simp; done) | (simp; omega)) [-getElem?_pos, List.getElem?_cons_zero, List.getElem?_cons_succ, Tryd.f44, hl]
    repeat' (first | (refine wp_unroll rfl ?_) | (refine wpc_split _ (fun hc => ?_) (fun hc => ?_) <;> (try simp at hc)) | (refine ww_split _ (fun hc => ?_) (fun hc => ?_) <;> (try simp at hc)) | (refine wp_drawF (by kernel_rfl) ?_) | (refine wk_yldW _ ?_) | (refine layOwe _ (by kernel_rfl) ?_) | (refine owe ?_ (fun ho => ?_)) | (simp (disch := first | assumption | omega | (simp; done) | (simp; omega)) [hl, -getElem?_pos, List.getElem?_cons_zero, List.getElem?_cons_succ]))
    all_goals (rw [hd]; simp [conts, decV]; grind)
  · have hl : longR (nth s 0).toNat = (0, 0) := by simp (disch := omega) [longR]
    refine outS_of_wp cfg (fn := Tryd.f44) Tryd.func44 rfl (by simp [Tryd.f44]) ?_
    simp (disch := first | assumption | omega | (simp; done) | (simp; omega)) [-getElem?_pos, List.getElem?_cons_zero, List.getElem?_cons_succ, Tryd.f44, hl]
    repeat' (first | (refine wp_unroll rfl ?_) | (refine wpc_split _ (fun hc => ?_) (fun hc => ?_) <;> (try simp at hc)) | (refine ww_split _ (fun hc => ?_) (fun hc => ?_) <;> (try simp at hc)) | (refine wp_drawF (by kernel_rfl) ?_) | (refine wk_yldW _ ?_) | (refine layOwe _ (by kernel_rfl) ?_) | (refine owe ?_ (fun ho => ?_)) | (simp (disch := first | assumption | omega | (simp; done) | (simp; omega)) [hl, -getElem?_pos, List.getElem?_cons_zero, List.getElem?_cons_succ]))
    all_goals (simp [dec, hl])
@[simp] theorem S44 (s : List UInt8) (hs : 0 < s.length) (hh : Heap) : Ci cfg (.func (.func 44) [] []) [.str s] hh = some (.ret (.tuple [.int .i64 (dec s).1, .int .i64 (dec s).2]), hh) :=
  Ci_K cfg rfl rfl (by simp) (by simp) (C44 s hs)
end Go.Ab
