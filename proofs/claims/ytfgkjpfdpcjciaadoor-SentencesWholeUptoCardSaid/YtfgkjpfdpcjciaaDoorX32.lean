/- Layer 32 (sentences): strings.ContainsAny of one byte, from the library's shelf. -/
import Derived.Test.YtfgkjpfdpcjciaaDoorRows
import Derived.Shelf.Strings.IndexAnyAll
import Derived.Test.YtfgkjpfdpcjciaaDoorAbsC
set_option linter.unusedVariables false
set_option linter.unusedSimpArgs false
set_option linter.unusedSectionVars false
set_option linter.deprecated false
namespace Go.Proofs
open Go.Shelf Go.RowKit Go.Lib
set_option maxRecDepth 1000000
def marks3 : ByteArray := ⟨#[46, 63, 33]⟩
theorem decode_bad (b : UInt8) (h : ¬ b.toNat < 128) : Utf8.decode ⟨#[b]⟩ 0 = (65533, 1) := by
  have key : (List.range 256).all (fun n => decide (n < 128) || (Utf8.decode ⟨#[UInt8.ofNat n]⟩ 0 == ((65533 : Nat), 1))) = true := by kernel_rfl
  rw [List.all_eq_true] at key
  have h1 := key b.toNat (List.mem_range.2 b.toNat_lt)
  have h2 : UInt8.ofNat b.toNat = b := by simp
  rw [h2, Bool.or_eq_true] at h1
  rcases h1 with h1 | h1
  · exact absurd (of_decide_eq_true h1) h
  · simpa using h1
theorem run_next_bad {P : Program} (w : World) (b : UInt8) (h : ¬ b.toNat < 128) (ty : TypeId) :
    (Instr.next (.pointer (some ⟨w.heap.size, 0, none⟩)) true ty).run P (w.iter ⟨#[b]⟩ 0) =
      .ok (.tuple #[.bool true, .int .i64 0, .int .i32 65533]) (w.iter ⟨#[b]⟩ 1) := by
  have h0 : 0 < (⟨#[b]⟩ : ByteArray).size := by show 0 < 1; decide
  simp only [Instr.next, getObj, setObj, Sem.run_bind, Sem.run, World.iter_heap, Result.andThen, h0, if_true, decode_bad b h, World.iter_set]
  simp [goInt, Sem.run, World.iter_heap, World.iter_set]
theorem run_next_end2 {P : Program} (w : World) (s : ByteArray) (pos : Nat) (o : Obj) (ty : TypeId) (h : ¬ pos < s.size) :
    (Instr.next (.pointer (some ⟨w.heap.size, 0, none⟩)) true ty).run P ((w.iter s pos).alloc o) = .ok (.tuple #[.bool false]) ((w.iter s pos).alloc o) := by
  have h1 : ((w.iter s pos).alloc o).heap[w.heap.size]? = some (.stringIter s pos) := by
    show ((w.heap.push (Obj.stringIter s pos)).push o)[w.heap.size]? = _
    rw [Array.getElem?_push_lt (by simp)]
    simp
  simp [Instr.next, getObj, Sem.run, h1, h]
section
variable {P : Program} {ρ : Ren}
set_option maxHeartbeats 8000000 in
theorem indexRune_bad (L : Lays.n152 P ρ) (w : World) :
    Calls P (ρ.f 152) #[.string marks3, .int .i32 65533] w fun e w' => e = .returned (.int .i64 (-1)) ∧ w' = w.iter marks3 3 := by
  have t3 := L.t3; have a3 := L.a3; have z3 := L.z3; have v3 := L.v3
  have t4 := L.t4; have a4 := L.a4; have z4 := L.z4; have v4 := L.v4
  have t5 := L.t5; have a5 := L.a5; have z5 := L.z5; have v5 := L.v5
  have t9 := L.t9; have a9 := L.a9; have z9 := L.z9; have v9 := L.v9
  have t21 := L.t21; have a21 := L.a21; have z21 := L.z21; have v21 := L.v21
  go_enter L.f152, Body.n152_ntmps ρ
  go_wp2
  go_loopg [5, 6] 3 (fun g _ _ wx => ∃ i : Nat, i + g = 3 ∧ wx = w.iter marks3 i)
  case atStart => exact ⟨0, rfl, rfl⟩
  case round =>
    obtain ⟨i, hig, rfl⟩ := hrel
    cases gk with
    | zero =>
      obtain rfl : i = 3 := by omega
      have hnx := fun ty => run_next_end (P := P) w marks3 3 ty (by decide)
      go_wp2
      go_ret
      exact ⟨rfl, rfl⟩
    | succ g =>
      have hi : i = 0 ∨ i = 1 ∨ i = 2 := by omega
      rcases hi with rfl | rfl | rfl
      · have hnx : ∀ ty, (Instr.next (.pointer (some ⟨w.heap.size, 0, none⟩)) true ty).run P (w.iter marks3 0) = .ok (.tuple #[.bool true, .int .i64 0, .int .i32 46]) (w.iter marks3 1) := fun ty => run_next_ascii (P := P) w marks3 0 ty (by decide) (by decide)
        go_wp2
        go_roundg g
        case measure => omega
        case rel => exact ⟨1, by omega, rfl⟩
      · have hnx : ∀ ty, (Instr.next (.pointer (some ⟨w.heap.size, 0, none⟩)) true ty).run P (w.iter marks3 1) = .ok (.tuple #[.bool true, .int .i64 1, .int .i32 63]) (w.iter marks3 2) := fun ty => run_next_ascii (P := P) w marks3 1 ty (by decide) (by decide)
        go_wp2
        go_roundg g
        case measure => omega
        case rel => exact ⟨2, by omega, rfl⟩
      · have hnx : ∀ ty, (Instr.next (.pointer (some ⟨w.heap.size, 0, none⟩)) true ty).run P (w.iter marks3 2) = .ok (.tuple #[.bool true, .int .i64 2, .int .i32 33]) (w.iter marks3 3) := fun ty => run_next_ascii (P := P) w marks3 2 ty (by decide) (by decide)
        go_wp2
        go_roundg g
        case measure => omega
        case rel => exact ⟨3, by omega, rfl⟩
set_option maxHeartbeats 8000000 in
theorem indexAny_bad (L : Lays.n153 P ρ) (s : ByteArray) (hs : s.size = 1) (w : World) (hd : ∀ ty, (Instr.next (.pointer (some ⟨w.heap.size, 0, none⟩)) true ty).run P (w.iter s 0) = .ok (.tuple #[.bool true, .int .i64 0, .int .i32 65533]) (w.iter s 1)) :
    Calls P (ρ.f 153) #[.string s, .string marks3] w fun e w' => e = .returned (.int .i64 (-1)) ∧ Below w.heap.size w w' := by
  have hsm : marks3.size = 3 := rfl
  have hemp : marks3.toList.isEmpty = false := by rw [Lib.toList_data]; rfl
  have h8z : decide ((8 : Int) < (s.size : Int)) = false := by rw [hs]; rfl
  have hn1 : ((marks3.size : Int) == 1) = false := rfl
  have HS : Aside (s.size = 1) := hs
  clear hs hsm
  have t3 := L.t3; have a3 := L.a3; have z3 := L.z3; have v3 := L.v3
  have t4 := L.t4; have a4 := L.a4; have z4 := L.z4; have v4 := L.v4
  have t5 := L.t5; have a5 := L.a5; have z5 := L.z5; have v5 := L.v5
  have t9 := L.t9; have a9 := L.a9; have z9 := L.z9; have v9 := L.v9
  have t21 := L.t21; have a21 := L.a21; have z21 := L.z21; have v21 := L.v21
  have e152 : ∀ args w, (callFunc (ρ.f 152) args).run P w = .ok (.enter (ρ.f 152) args) w := enters_of L.f152 (by kernel_rfl) rfl
  have e226 : ∀ args w, (callFunc (ρ.f 226) args).run P w = .ok (.enter (ρ.f 226) args) w := enters_of L.f226 (by kernel_rfl) rfl
  go_enter L.f153, Body.n153_ntmps ρ
  go_wp2_with (go_at_fn (ρ.f 226); refine (Any.strings_shouldUseASCIISet { L with } _ _).mono ?_; rintro e w' ⟨rfl, hw⟩; rw [hw, h8z])
  go_loopg [9, 10] 1 (fun g _ _ wx => (g = 1 ∧ wx = w.iter s 0) ∨ (g = 0 ∧ wx = (w.iter s 1).iter marks3 3))
  case atStart => exact .inl ⟨rfl, rfl⟩
  case round =>
    rcases hrel with ⟨rfl, rfl⟩ | ⟨rfl, rfl⟩
    · go_wp2_with (go_at_fn (ρ.f 152); refine (indexRune_bad { L with } _).mono ?_; rintro e w' ⟨rfl, hw⟩; rw [hw])
      go_roundg 0
      case measure => omega
      case rel => exact .inr ⟨rfl, rfl⟩
    · have hn3 : ∀ ty, (Instr.next (.pointer (some ⟨w.heap.size, 0, none⟩)) true ty).run P ((w.iter s 1).iter marks3 3) = .ok (.tuple #[.bool false]) ((w.iter s 1).iter marks3 3) := fun ty => run_next_end2 (P := P) w s 1 (.stringIter marks3 3) ty (by have := HS.out; omega)
      go_wp2
      go_ret
      exact ⟨rfl, ((Below.refl _ _).alloc (Nat.le_refl _) _).alloc (by simp) _⟩
set_option maxHeartbeats 1000000 in
theorem containsAny_bad (L : Lays.n150 P ρ) (s : ByteArray) (hs : s.size = 1) (w : World) (hd : ∀ ty, (Instr.next (.pointer (some ⟨w.heap.size, 0, none⟩)) true ty).run P (w.iter s 0) = .ok (.tuple #[.bool true, .int .i64 0, .int .i32 65533]) (w.iter s 1)) :
    Calls P (ρ.f 150) #[.string s, .string marks3] w fun e w' => e = .returned (.bool false) ∧ Below w.heap.size w w' := by
  have c := indexAny_bad { L with } s hs w hd
  have t3 := L.t3; have a3 := L.a3; have z3 := L.z3; have v3 := L.v3
  have t4 := L.t4; have a4 := L.a4; have z4 := L.z4; have v4 := L.v4
  have t9 := L.t9; have a9 := L.a9; have z9 := L.z9; have v9 := L.v9
  have e153 : ∀ args w, (callFunc (ρ.f 153) args).run P w = .ok (.enter (ρ.f 153) args) w := enters_of L.f153 (by kernel_rfl) rfl
  clear hd hs
  go_enter L.f150, Body.n150_ntmps ρ
  go_wp2_with (go_at_fn (ρ.f 153); refine c.mono ?_; rintro e w' ⟨rfl, hw⟩)
  go_ret
  exact ⟨rfl, hw⟩
end
/-- where the shelf's functions and types lie here -/
def ren150 : Ren where
  f := fun x => match x with
    | 150 => 30
    | 153 => 42
    | 152 => 47
    | 226 => 48
    | 227 => 49
    | 228 => 50
    | 137 => 57
    | 119 => 58
    | 224 => 59
    | 225 => 60
    | 217 => 68
    | 266 => 77
    | n => n
  t := fun x => match x with
    | 9 => 9
    | 4 => 4
    | 3 => 3
    | 5 => 5
    | 21 => 21
    | 117 => 76
    | 116 => 75
    | 0 => 0
    | 46 => 84
    | 124 => 85
    | n => n
  g := fun x => x
theorem lays150 : Lays.n150 Tryd.prog ren150 :=
  { mixed := Eq.refl true, f119 := Eq.trans Tryd.func58 (congrArg some (Eq.refl (Body.n119 ren150))), f137 := Eq.trans Tryd.func57 (congrArg some (Eq.refl (Body.n137 ren150))), f150 := Eq.trans Tryd.func30 (congrArg some (Eq.refl (Body.n150 ren150))), f152 := Eq.trans Tryd.func47 (congrArg some (Eq.refl (Body.n152 ren150))), f153 := Eq.trans Tryd.func42 (congrArg some (Eq.refl (Body.n153 ren150))), f217 := Eq.trans Tryd.func68 (congrArg some (Eq.refl (Body.n217 ren150))), f224 := Eq.trans Tryd.func59 (congrArg some (Eq.refl (Body.n224 ren150))), f225 := Eq.trans Tryd.func60 (congrArg some (Eq.refl (Body.n225 ren150))), f226 := Eq.trans Tryd.func48 (congrArg some (Eq.refl (Body.n226 ren150))), f227 := Eq.trans Tryd.func49 (congrArg some (Eq.refl (Body.n227 ren150))), f228 := Eq.trans Tryd.func50 (congrArg some (Eq.refl (Body.n228 ren150))), f266 := Eq.trans Tryd.func77 (congrArg some (Eq.refl (Body.n266 ren150))), t0 := Tryd.underlying0, a0 := Tryd.isAgg0, z0 := Tryd.sizeOf0, v0 := Tryd.zeroValue0, t3 := Tryd.underlying3, a3 := Tryd.isAgg3, z3 := Tryd.sizeOf3, v3 := Tryd.zeroValue3, t4 := Tryd.underlying4, a4 := Tryd.isAgg4, z4 := Tryd.sizeOf4, v4 := Tryd.zeroValue4, t5 := Tryd.underlying5, a5 := Tryd.isAgg5, z5 := Tryd.sizeOf5, v5 := Tryd.zeroValue5, t9 := Tryd.underlying9, a9 := Tryd.isAgg9, z9 := Tryd.sizeOf9, v9 := Tryd.zeroValue9, t21 := Tryd.underlying21, a21 := Tryd.isAgg21, z21 := Tryd.sizeOf21, v21 := Tryd.zeroValue21, t46 := Tryd.underlying84, a46 := Tryd.isAgg84, z46 := Tryd.sizeOf84, v46 := Tryd.zeroValue84, t116 := Tryd.underlying75, a116 := Tryd.isAgg75, z116 := Tryd.sizeOf75, t117 := Tryd.underlying76, a117 := Tryd.isAgg76, z117 := Tryd.sizeOf76, v117 := Tryd.zeroValue76, t124 := Tryd.underlying85, a124 := Tryd.isAgg85, z124 := Tryd.sizeOf85, v124 := Tryd.zeroValue85 }
theorem set150 : (Tryd.prog.info? (ren150.t 116)).map (fun i => (i.zero, i.size)) = some (some (.agg (Array.replicate 256 (.bool false))), 256) := by kernel_rfl
def markB (b : UInt8) : Bool := b == 46 || b == 63 || b == 33
theorem calls_ca (b : UInt8) (w : World) : Calls Tryd.prog 30 #[.string ⟨#[b]⟩, .string marks3] w fun e w' => e = .returned (.bool (markB b)) ∧ Below w.heap.size w w' := by
  by_cases hb : b.toNat < 128
  · have h := Any.strings_ContainsAny_laid lays150 set150 ⟨#[b]⟩ marks3 w (by show 1 < _; decide) (by decide) (fun j c hc => by
        have : j = 0 := by
          cases j with
          | zero => rfl
          | succ j => simp at hc
        subst this
        simp at hc; subst hc; exact hb) (fun j c hc => by
        have h1 : c ∈ ([46, 63, 33] : List UInt8) := List.mem_of_getElem? hc
        revert h1
        simp only [List.mem_cons, List.not_mem_nil, or_false]
        rintro (rfl | rfl | rfl) <;> decide)
    have e : Lib.containsAny (⟨#[b]⟩ : ByteArray).data.toList marks3.data.toList = markB b := by
      have key : (List.range 256).all (fun n => Lib.containsAny [UInt8.ofNat n] [46, 63, 33] == markB (UInt8.ofNat n)) = true := by kernel_rfl
      rw [List.all_eq_true] at key
      have h1 := key b.toNat (List.mem_range.2 b.toNat_lt)
      have h2 : UInt8.ofNat b.toNat = b := by simp
      rw [h2] at h1
      exact eq_of_beq h1
    rw [e] at h
    exact h
  · have h := containsAny_bad lays150 ⟨#[b]⟩ rfl w (fun ty => run_next_bad w b hb ty)
    have e : markB b = false := by
      unfold markB
      cases h1 : (b == 46) with
      | true => rw [beq_iff_eq] at h1; subst h1; exact absurd (by decide) hb
      | false => cases h2 : (b == 63) with
        | true => rw [beq_iff_eq] at h2; subst h2; exact absurd (by decide) hb
        | false => cases h3 : (b == 33) with
          | true => rw [beq_iff_eq] at h3; subst h3; exact absurd (by decide) hb
          | false => rfl
    rw [e]
    exact h
end Go.Proofs
namespace Go.Ab
open Go.Proofs Go.RowKit
theorem inv_empty {g : Gh} {n0 : Nat} {w w' : World} (h : Inv g n0 emptyH w) (hb : Below w.heap.size w w') : Inv g n0 emptyH w' := by
  have hs := hb.size
  refine ⟨by have := h.base; omega, fun B o v hg => ?_, fun a b hab => by simp [emptyH] at hab, h.new, fun k sz hk => by simp [emptyH] at hk, h.newt, fun B hB => h.fresh B (by omega)⟩
  rw [hb.cell (h.lt hg)]; exact h.agree B o v hg
theorem psim_ca (glob : Nat → Option (List V)) (b : UInt8) : PSim Tryd.prog glob 30 [.str [b], .str [46, 63, 33]] (.ret (.bool (markB b))) := by
  intro g n0 w vs hI hG ra
  have hv : vs = #[.string ⟨#[b]⟩, .string marks3] := by
    simp only [RepL, Rep] at ra
    obtain ⟨y, ys, h1, rfl, z, zs, h2, rfl, rfl⟩ := ra
    subst h2
    exact Array.ext' h1
  subst hv
  refine ⟨enters_of Tryd.func30 (by kernel_rfl) rfl _ _, fun cs => ?_⟩
  obtain ⟨e, w', fr, ⟨rfl, hbel⟩, hco, hfn, hlv⟩ := calls_ca b w cs
  exact ⟨g, w', fr, ⟨.refl _, fun _ _ _ => rfl, hbel.mono hI.base⟩, inv_empty hI hbel, hco, hfn, ⟨.bool (markB b), by simp [Rep], hlv⟩⟩
end Go.Ab
