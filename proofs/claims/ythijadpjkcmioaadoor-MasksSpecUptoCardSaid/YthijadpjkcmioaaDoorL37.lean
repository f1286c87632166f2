/- MasksSpec. -/
import Derived.Test.YthijadpjkcmioaaDoorSB
import Derived.Test.YthijadpjkcmioaaDoorM6
set_option linter.unusedVariables false
set_option linter.unusedSimpArgs false
set_option linter.unusedSectionVars false
set_option linter.deprecated false
namespace Go.Ab
open Go.Proofs Go.Proofs.YthijadpjkcmioaaDoor
set_option maxRecDepth 100000
theorem rd_string : Reads Tryd.prog 9 (fun _ : List UInt8 => True) (fun s => [.str s]) (fun s => s.length) := reads_string Tryd.underlying9 (by kernel_rfl)
theorem rd_int : Reads Tryd.prog 3 (fun n : Int => (Lit.int .i64 n).wf = true) (fun n => [.int .i64 n]) (fun _ => 0) := reads_int Tryd.underlying3 (by kernel_rfl)
theorem rd_ints : Reads Tryd.prog 23 (fun l : List Int => ∀ y ∈ l, (Lit.int .i64 y).wf = true) (fun l => [R fl0 eI l]) (fun l => (l.map fun _ => 0 + 1).sum) := reads_slice Tryd.underlying23 (by kernel_rfl) (by rw [show Tryd.prog.cellsOf 3 = 1 by kernel_rfl]; decide) rd_int
theorem sum_one {α : Type} (l : List α) : (l.map fun _ => 1).sum = l.length := by
  induction l with
  | nil => rfl
  | cons x l ih => simp only [List.map_cons, List.sum_cons, ih, List.length_cons]; omega
theorem sum_mem {α : Type} {f : α → Nat} {l : List α} {x : α} (h : x ∈ l) : f x ≤ (l.map f).sum := by
  induction l with
  | nil => cases h
  | cons y l ih =>
    simp only [List.map_cons, List.sum_cons]
    rcases List.mem_cons.1 h with rfl | h
    · omega
    · have := ih h; omega
theorem sum_len {α : Type} {f : α → Nat} (l : List α) : l.length ≤ (l.map fun x => f x + 1).sum := by
  induction l with
  | nil => simp
  | cons y l ih => simp only [List.map_cons, List.sum_cons, List.length_cons]; omega
theorem rd_target : Reads Tryd.prog 35 (fun _ : Target => True) eT (fun x => x.text.length + x.deps.length) := by
  have h := reads_struct (t := 35) (P := Tryd.prog) Tryd.underlying35 (readsF_cons rfl rd_string (readsF_cons (by kernel_rfl) rd_ints (readsF_cons (by kernel_rfl) rd_int (readsF_nil _))))
  refine reads_congr h fun a _ => ⟨⟨a.1, a.2.1, a.2.2.1⟩, trivial, rfl, ?_⟩
  simp [sum_one]
theorem rd_targets : Reads Tryd.prog 22 (fun l : List Target => ∀ y ∈ l, True) (fun l => [R fl0 eT l]) (fun l => (l.map fun x => x.text.length + x.deps.length + 1).sum) := reads_slice Tryd.underlying22 (by kernel_rfl) (by rw [show Tryd.prog.cellsOf 35 = 3 by kernel_rfl]; decide) rd_target
theorem small_of {l : List Target} {v : List Int} (h : (l.map fun x => x.text.length + x.deps.length + 1).sum + (v.map fun _ => 0 + 1).sum ≤ 1048576) : (l.length < 1099511627776 ∧ v.length < 1099511627776) ∧ ∀ x ∈ l, x.text.length < 1099511627776 ∧ x.deps.length < 1099511627776 := by
  have h1 := sum_len (f := fun x : Target => x.text.length + x.deps.length) l
  have h2 := sum_one v
  simp only [Nat.zero_add] at h
  refine ⟨⟨by omega, by omega⟩, fun x hx => ?_⟩
  have := sum_mem (f := fun x : Target => x.text.length + x.deps.length + 1) hx
  omega
end Go.Ab
namespace Go.Proofs.YthijadpjkcmioaaDoor
open Go Go.Ab
set_option maxRecDepth 100000
theorem own : ownKnob Tryd.prog.godebug = none := by kernel_rfl
theorem contract_spec (H : Type) (enc : TypeId × Value → H) (W : World) (base : Nat) (args : Array Value) (ds gs : List (DataW H)) (before : List MemPlace)
    (hval : ∀ (j : Nat) t v, Tryd.f3.params[j]? = some t → args[j]? = some v → Value.okWide Tryd.prog W .any base t v)
    (hW : DataW.Whole enc Tryd.prog Tryd.f3.params.toList Rows.masksSpecSpec.vars false W args.toList ds gs before) (hk : Rows.uptoSmall H (ds ++ gs) = true) (hL : laidMetH Tryd.prog Rows.masksSpecUptoRow.laid W) :
    Calls Tryd.prog 3 args W fun e W' => ∃ v, e = .returned v ∧ Rows.masksSpecSpec.post enc Tryd.prog Tryd.f3 false true false false W args v W' := by
  refine contract_of_psim (glob := globs) (N := 1048576) (tb := 4) (ts := [22, 23]) (by kernel_rfl) (by kernel_rfl) (by kernel_rfl) (by kernel_rfl) Tryd.underlying4 rfl
    (fun H ds h => by
      match ds, h with
      | [d1, d2], _ => rfl) (readsA_cons (by kernel_rfl) rd_targets (readsA_cons (by kernel_rfl) rd_ints readsA_nil)) (fun a _ hs => ?_) enc bulk_ok W base args ds gs before hval hW ?_ (globs_laid hL)
  · obtain ⟨l, v, u⟩ := a
    have h := small_of (l := l) (v := v) (by simp only [List.length_cons, List.length_nil] at hs; omega)
    exact ps_of (C3 l v h.1 h.2)
  · have := of_decide_eq_true hk
    rwa [bulk_all] at this
theorem laid_met (os : Os) : laidMet Tryd.prog Rows.masksSpecUptoRow.laid ((laidWorld os).forCall (fun _ _ => 0) ⟨#[], #[.slice none 0 0, .slice none 0 0], []⟩).memory :=
  laidMet_of_run' 8 (by kernel_rfl) (by kernel_rfl)
theorem reads (os : Os) {H : Type} (enc : TypeId × Value → H) : ∃ places, DataW.whole enc Tryd.prog ((laidWorld os).forCall (fun _ _ => 0) ⟨#[], #[.slice none 0 0, .slice none 0 0], []⟩).memory Tryd.f3.params.toList Rows.masksSpecSpec.vars false #[Value.slice none 0 0, Value.slice none 0 0].toList 8 = some ([.nil, .nil], [], places) :=
  ⟨[], by kernel_rfl⟩
theorem liftedUpto (os : Os) (started : os.Started) (H : Type) (enc : TypeId × Value → H) (F : Stop.Interp) :
    ReturnsInHanded {} Tryd.checked os 3 .any ((Rows.OpenSpec.upto Rows.masksSpecSpec).preRow enc Tryd.prog Tryd.f3 Rows.masksSpecUptoRow.domain false Rows.masksSpecUptoRow.laid) (((Rows.OpenSpec.upto Rows.masksSpecSpec).at F).post enc Tryd.prog Tryd.f3 false true false false) := by
  obtain ⟨places, hx⟩ := reads os enc
  refine returnsInHanded_of_row (C := Tryd.checked) (s := Rows.OpenSpec.upto Rows.masksSpecSpec) own started (by kernel_rfl) Tryd.func3
    (witness_row_at (enc := enc) (C := Tryd.checked) false (laidWorld os) #[.slice none 0 0, .slice none 0 0] rfl (by kernel_rfl) (by kernel_rfl) (by kernel_rfl)
      (OpenSpec.preRow_of_cond 8 hx (by kernel_rfl) (fun k hk => by cases hk; kernel_rfl) (by kernel_rfl) (laid_met os))) ?_
  intro W base args ds gs before hval hW _ hcond _ hL _ _
  exact contract_spec H enc W base args ds gs before hval hW (hcond _ rfl) hL
theorem saidUpto : Rows.MasksSpecUptoSaid :=
  OpenClaim.holds_of_cond 3 Tryd.f3 rfl rfl rfl rfl rfl rfl rfl ⟨rfl, rfl, rfl, rfl, rfl⟩ rfl rfl rfl rfl rfl (by kernel_rfl) Tryd.func3 (by kernel_rfl)
    (of_decide_eq_true (by kernel_rfl)) (by unfold Func.isWrapper; first | (rw [if_pos (by decide +kernel)]; kernel_rfl) | (rw [if_neg (by decide +kernel)]; exact ⟨rfl, rfl⟩))
    (fun os started H enc _ F => by rw [OpenClaim.pre_eq_preRow]; exact liftedUpto os started H enc F)
theorem plain (f : FuncId) (fn : Func) (hf : Tryd.pinned.checked.prog.funcNamed "hansard/hansardlaw37.MasksSpec" = some f) (hfn : Tryd.pinned.checked.prog.funcs[f]? = some fn) :
    true = Tryd.pinned.checked.prog.looks [] ∧ ∀ (j : Nat) t, fn.params[j]? = some t → Tryd.pinned.checked.prog.wantsStandIn t = false := by
  obtain rfl : f = 3 := Option.some.inj ((show Tryd.prog.funcNamed "hansard/hansardlaw37.MasksSpec" = some 3 by kernel_rfl).symm.trans hf) |>.symm
  obtain rfl : fn = Tryd.f3 := (Option.some.inj (Tryd.func3.symm.trans hfn)).symm
  refine ⟨by kernel_rfl, fun j t ht => ?_⟩
  have hall : Tryd.f3.params.toList.all (fun t => !Tryd.prog.wantsStandIn t) = true := by kernel_rfl
  have := List.all_eq_true.1 hall t (by simpa using Array.mem_of_getElem? ht)
  exact (by simpa using this : Tryd.prog.wantsStandIn t = false)
theorem x_holds : Rows.MasksSpecUptoCardSaid :=
  Claim7.holds_tied_plain_at .later [] _ _ _ _ saidUpto (fun _ h => by cases h) (by kernel_rfl) (fun _ h => by cases h) masksSpecUpto_row_tie rfl ⟨rfl, rfl⟩ (by kernel_rfl) rfl plain (by kernel_rfl)
end Go.Proofs.YthijadpjkcmioaaDoor
