/- The limit of 'run': no fuel; its equations. -/
import Derived.Test.YtdfpmhgfmmcopaaDoorAbsTab
set_option linter.unusedVariables false
set_option linter.unusedSimpArgs false
set_option linter.unusedSectionVars false
set_option linter.deprecated false
namespace Go.Ab

/-- From some stage on the family says what the limit says. -/
def EAp (En : Nat → ExecF) (E : ExecF) : Prop := ∀ code s r, E code s = some r → ∃ N, ∀ n, N ≤ n → En n code s = some r
def CAp (Cn : Nat → CallF) (C : CallF) : Prop := ∀ f a h r, C f a h = some r → ∃ N, ∀ n, N ≤ n → Cn n f a h = some r
def DAp (Dn : Nat → DCallF) (D : DCallF) : Prop := ∀ f a h p r, D f a h p = some r → ∃ N, ∀ n, N ≤ n → Dn n f a h p = some r

section
variable {c : Cfg} {Cn : Nat → CallF} {C : CallF} {En : Nat → ExecF} {E : ExecF} {Dn : Nat → DCallF} {D : DCallF}

theorem eff_ap (hC : CAp Cn C) {q piv : Bool} {o : Oper} {want : Option Bool} {ev : Operand → V} {h : Heap} {d : List Def} {p : Pan} {ro : Option Nat} {x : (V × Heap × List Def × Pan) ⊕ (V × Heap)}
    (he : eff c C q piv o want ev h d p ro = some x) : ∃ N, ∀ n, N ≤ n → eff c (Cn n) q piv o want ev h d p ro = some x := by
  unfold eff at he ⊢
  cases want with
  | none => cases he
  | some b => cases b with
    | false => exact ⟨0, fun _ _ => he⟩
    | true =>
      simp only at he ⊢
      cases ho : opR c h ev o with
      | none => rw [ho] at he; cases he
      | some r =>
        rw [ho] at he
        cases r with
        | call f args =>
          simp only at he ⊢
          split at he
          · cases he
          · rename_i hq
            cases hc : C f args h with
            | none => rw [hc] at he; cases he
            | some y =>
              obtain ⟨N, hN⟩ := hC _ _ _ _ hc
              refine ⟨N, fun n hn => ?_⟩
              rw [hN n hn]
              rw [hc] at he
              rw [if_neg hq]
              exact he
        | _ => exact ⟨0, fun _ _ => he⟩

theorem execOps_ap (hC : CAp Cn C) (q : Bool) (ops : Array Oper) : ∀ (l : List Nat) (s : St) (r : Ax × St), execOps c C q ops l s = some r → ∃ N, ∀ n, N ≤ n → execOps c (Cn n) q ops l s = some r
  | [], s, r, h => ⟨0, fun _ _ => by simpa [execOps] using h⟩
  | i :: l, s, r, h => by
    rw [execOps_cons] at h
    cases ho : ops[i]? with
    | none => rw [ho] at h; cases h
    | some o =>
      rw [ho] at h
      simp only at h
      cases he : eff c C q (pivot ops i) o (wantedV ops o s.t) (evT c s.t) s.h s.d s.p s.ro with
      | none => rw [he] at h; cases h
      | some x =>
        obtain ⟨N, hN⟩ := eff_ap hC he
        rw [he] at h
        cases x with
        | inl x =>
          obtain ⟨M, hM⟩ := execOps_ap hC q ops l _ r h
          refine ⟨max N M, fun n hn => ?_⟩
          rw [execOps_cons, ho]
          simp only
          rw [hN n (by omega)]
          exact hM n (by omega)
        | inr y =>
          refine ⟨N, fun n hn => ?_⟩
          rw [execOps_cons, ho]
          simp only
          rw [hN n hn]
          exact h

theorem rangeGo_ap (hC : CAp Cn C) {s : St} {f : Operand} {ps : Array Tmp} {as bo : Code} {h : Heap} {db : Nat} {d : List Def} {r : Ax × St} (hr : rangeGo c C s f ps as bo h db d = some r) :
    ∃ N, ∀ n, N ≤ n → rangeGo c (Cn n) s f ps as bo h db d = some r := by
  unfold rangeGo at hr ⊢
  cases hc : C (evT c s.t f) [.yld h.bs.length] (newB h (.loop s.t ps.toList as bo .ready none db)) with
  | none => rw [hc] at hr; cases hr
  | some y =>
    obtain ⟨N, hN⟩ := hC _ _ _ _ hc
    refine ⟨N, fun n hn => ?_⟩
    rw [hN n hn]
    rw [hc] at hr
    exact hr

theorem execS_ap (hE : EAp En E) (hC : CAp Cn C) : EAp (fun n => execS c (En n) (Cn n)) (execS c E C) := by
  intro code s r h
  cases code with
  | seq a b =>
    simp only [execS] at h ⊢
    cases ha : E a s with
    | none => rw [ha] at h; cases h
    | some y =>
      obtain ⟨N, hN⟩ := hE _ _ _ ha
      rw [ha] at h
      obtain ⟨ax, s1⟩ := y
      cases ax with
      | normal =>
        obtain ⟨M, hM⟩ := hE _ _ _ h
        exact ⟨max N M, fun n hn => by rw [hN n (by omega)]; exact hM n (by omega)⟩
      | _ => exact ⟨N, fun n hn => by rw [hN n hn]; exact h⟩
  | cond q a b =>
    simp only [execS] at h ⊢
    split at h
    · exact hE _ _ _ h
    · exact hE _ _ _ h
    · cases h
  | block id b =>
    simp only [execS] at h ⊢
    cases hb : E b s with
    | none => rw [hb] at h; cases h
    | some y =>
      obtain ⟨N, hN⟩ := hE _ _ _ hb
      exact ⟨N, fun n hn => by rw [hN n hn]; rw [hb] at h; exact h⟩
  | loop b =>
    simp only [execS] at h ⊢
    cases hb : E b (killS c b s) with
    | none => rw [hb] at h; cases h
    | some y =>
      obtain ⟨N, hN⟩ := hE _ _ _ hb
      rw [hb] at h
      obtain ⟨ax, s1⟩ := y
      cases ax with
      | normal =>
        obtain ⟨M, hM⟩ := hE _ _ _ h
        exact ⟨max N M, fun n hn => by rw [hN n (by omega)]; exact hM n (by omega)⟩
      | _ => exact ⟨N, fun n hn => by rw [hN n hn]; exact h⟩
  | region id ops draw =>
    simp only [execS] at h ⊢
    split at h
    · cases h
    · rename_i hd
      obtain ⟨N, hN⟩ := execOps_ap hC draw ops _ s r h
      exact ⟨N, fun n hn => by rw [if_neg hd]; exact hN n hn⟩
  | rangeFunc f ps as bo =>
    simp only [execS] at h ⊢
    split at h
    · cases h
    · rename_i hf
      cases hro : s.ro with
      | none =>
        rw [hro] at h
        obtain ⟨N, hN⟩ := rangeGo_ap hC h
        exact ⟨N, fun n hn => by rw [if_neg hf]; exact hN n hn⟩
      | some l =>
        rw [hro] at h
        simp only at h ⊢
        split at h
        · rename_i hl
          obtain ⟨N, hN⟩ := rangeGo_ap hC h
          exact ⟨N, fun n hn => by rw [if_neg hf]; exact hN n hn⟩
        · cases h
  | _ => exact ⟨0, fun _ _ => h⟩

theorem leaveS_ap (hD : DAp Dn D) : ∀ (ds : List Def) (h : Heap) (m : Md) (r : Heap × Md), leaveS D ds h m = some r → ∃ N, ∀ n, N ≤ n → leaveS (Dn n) ds h m = some r
  | [], h, m, r, hl => ⟨0, fun _ _ => by simpa [leaveS] using hl⟩
  | .mark a :: ds, h, m, r, hl => by
    simp only [leaveS] at hl ⊢
    split at hl
    · exact leaveS_ap hD ds _ m r hl
    · cases hl
  | .call fv args :: ds, h, .ret, r, hl => by
    simp only [leaveS] at hl ⊢
    cases hd : D fv args h .no with
    | none => rw [hd] at hl; cases hl
    | some y =>
      obtain ⟨N, hN⟩ := hD _ _ _ _ _ hd
      rw [hd] at hl
      obtain ⟨h1, p⟩ := y
      cases p with
      | no =>
        obtain ⟨M, hM⟩ := leaveS_ap hD ds h1 .ret r hl
        exact ⟨max N M, fun n hn => by rw [hN n (by omega)]; exact hM n (by omega)⟩
      | _ => cases hl
  | .call fv args :: ds, h, .pan v, r, hl => by
    simp only [leaveS] at hl ⊢
    cases hd : D fv args h (.pan v) with
    | none => rw [hd] at hl; cases hl
    | some y =>
      obtain ⟨N, hN⟩ := hD _ _ _ _ _ hd
      rw [hd] at hl
      obtain ⟨h1, p⟩ := y
      cases p with
      | no => cases hl
      | pan v' =>
        obtain ⟨M, hM⟩ := leaveS_ap hD ds h1 (.pan v') r hl
        exact ⟨max N M, fun n hn => by rw [hN n (by omega)]; exact hM n (by omega)⟩
      | got v' =>
        obtain ⟨M, hM⟩ := leaveS_ap hD ds h1 .ret r hl
        exact ⟨max N M, fun n hn => by rw [hN n (by omega)]; exact hM n (by omega)⟩

theorem bodyS_ap (hE : EAp En E) (hD : DAp Dn D) {f : FuncId} {args : List V} {h : Heap} {r : CRes × Heap} (hb : bodyS c E D f args h = some r) : ∃ N, ∀ n, N ≤ n → bodyS c (En n) (Dn n) f args h = some r := by
  unfold bodyS at hb ⊢
  cases hf : c.P.funcs[f]? with
  | none => rw [hf] at hb; cases hb
  | some fn =>
    rw [hf] at hb
    simp only at hb ⊢
    cases hc : fn.body with
    | none => rw [hc] at hb; cases hb
    | some code =>
      rw [hc] at hb
      simp only at hb ⊢
      cases he : E code { t := initT fn args, h, d := [], p := .no, ro := none } with
      | none => rw [he] at hb; cases hb
      | some y =>
        obtain ⟨N, hN⟩ := hE _ _ _ he
        rw [he] at hb
        obtain ⟨ax, s⟩ := y
        have fin : ∀ m, (match leaveS D s.d s.h m with
            | some (h, .ret) => match readRes c.P h s.t fn.results.toList with
              | some vs => some (CRes.ret (packRes vs), h)
              | none => none
            | some (h, .pan v) => some (.panic v, h)
            | none => none) = some r → ∃ M, ∀ n, M ≤ n → (match leaveS (Dn n) s.d s.h m with
            | some (h, .ret) => match readRes c.P h s.t fn.results.toList with
              | some vs => some (CRes.ret (packRes vs), h)
              | none => none
            | some (h, .pan v) => some (.panic v, h)
            | none => none) = some r := by
          intro m hm
          cases hl : leaveS D s.d s.h m with
          | none => rw [hl] at hm; cases hm
          | some z =>
            obtain ⟨M, hM⟩ := leaveS_ap hD _ _ _ _ hl
            exact ⟨M, fun n hn => by rw [hM n hn]; rw [hl] at hm; exact hm⟩
        cases ax with
        | normal => obtain ⟨M, hM⟩ := fin .ret hb; exact ⟨max N M, fun n hn => by rw [hN n (by omega)]; exact hM n (by omega)⟩
        | ret => obtain ⟨M, hM⟩ := fin .ret hb; exact ⟨max N M, fun n hn => by rw [hN n (by omega)]; exact hM n (by omega)⟩
        | panic v => obtain ⟨M, hM⟩ := fin (.pan v) hb; exact ⟨max N M, fun n hn => by rw [hN n (by omega)]; exact hM n (by omega)⟩
        | exit id => cases hb

theorem dbodyS_ap (hE : EAp En E) : DAp (fun n => dbodyS c (En n)) (dbodyS c E) := by
  intro fv args h p r hd
  unfold dbodyS at hd ⊢
  split at hd
  · rename_i f first cap
    simp only
    cases hf : c.P.funcs[f]? with
    | none => rw [hf] at hd; cases hd
    | some fn =>
      rw [hf] at hd
      simp only at hd ⊢
      cases hc : fn.body with
      | none => rw [hc] at hd; cases hd
      | some code =>
        rw [hc] at hd
        simp only at hd ⊢
        cases he : E code { t := initT fn (first ++ args ++ cap), h, d := [], p, ro := none } with
        | none => rw [he] at hd; cases hd
        | some y =>
          obtain ⟨N, hN⟩ := hE _ _ _ he
          exact ⟨N, fun n hn => by rw [hN n hn]; rw [he] at hd; exact hd⟩
  · cases hd

theorem roundS_ap (hE : EAp En E) {a : Nat} {args : List V} {h : Heap} {r : CRes × Heap} (hr : roundS E a args h = some r) : ∃ N, ∀ n, N ≤ n → roundS (En n) a args h = some r := by
  unfold roundS at hr ⊢
  split at hr
  · rename_i t ps as bo db hbl
    split at hr
    · cases hr
    · rename_i hlen
      cases he : E as { t := (ps.zip args).foldl (fun t (x : Nat × V) => t.set x.1 x.2) t, h, d := [], p := .no, ro := some a } with
      | none => rw [he] at hr; cases hr
      | some y =>
        obtain ⟨N, hN⟩ := hE _ _ _ he
        rw [he] at hr
        obtain ⟨ax, s⟩ := y
        cases ax with
        | normal =>
          simp only at hr
          split at hr
          · rename_i t2 ps2 as2 bo2 db2 hbl2
            cases he2 : E bo { s with h := { s.h with bs := s.h.bs.set a (.loop t2 ps2 as2 bo2 .busy none db2) } } with
            | none => rw [he2] at hr; cases hr
            | some z =>
              obtain ⟨M, hM⟩ := hE _ _ _ he2
              refine ⟨max N M, fun n hn => ?_⟩
              simp only [hbl]
              rw [if_neg hlen, hN n (by omega)]
              simp only [hbl2]
              rw [hM n (by omega)]
              rw [he2] at hr
              exact hr
          · cases hr
        | _ => cases hr
  · cases hr

theorem callS_ap (hE : EAp En E) (hD : DAp Dn D) : CAp (fun n => callS c (En n) (Dn n)) (callS c E D) := by
  intro fv args h r hc
  unfold callS at hc ⊢
  split at hc
  · rename_i f first cap
    simp only
    split at hc
    · rename_i hp
      cases hh : handV h (first ++ args ++ cap) with
      | none => rw [hh] at hc; cases hc
      | some y =>
        obtain ⟨xs, h1⟩ := y
        rw [hh] at hc
        simp only at hc ⊢
        cases hx : c.ext f xs with
        | some r1 => exact ⟨0, fun n _ => by rw [if_pos hp]; simp only [hx]; rw [hx] at hc; exact hc⟩
        | none =>
          rw [hx] at hc
          simp only at hc
          cases hb : bodyS c E D f xs emptyH with
          | none => rw [hb] at hc; simp [outS] at hc
          | some z =>
            obtain ⟨N, hN⟩ := bodyS_ap hE hD hb
            refine ⟨N, fun n hn => ?_⟩
            rw [if_pos hp]
            simp only [hN n hn]
            rw [hb] at hc
            exact hc
    · rename_i hp
      obtain ⟨N, hN⟩ := bodyS_ap hE hD hc
      exact ⟨N, fun n hn => by rw [if_neg hp]; exact hN n hn⟩
  · exact roundS_ap hE hc
  · cases hc
end

theorem run_mono (c : Cfg) : ∀ n, EAp (fun _ => (run c (n + 1)).E) (run c n).E ∧ CAp (fun _ => (run c (n + 1)).C) (run c n).C ∧ DAp (fun _ => (run c (n + 1)).D) (run c n).D
  | 0 => ⟨fun code s r h => by simp [run] at h, fun f a h r hc => by simp [run] at hc, fun f a h p r hd => by simp [run] at hd⟩
  | n + 1 => by
    obtain ⟨h1, h2, h3⟩ := run_mono c n
    exact ⟨execS_ap h1 h2, callS_ap h1 h3, dbodyS_ap h1⟩

theorem run_leE (c : Cfg) {n m : Nat} (h : n ≤ m) {code : Code} {s : St} {r : Ax × St} (hr : (run c n).E code s = some r) : (run c m).E code s = some r := by
  induction h with
  | refl => exact hr
  | step _ ih => obtain ⟨N, hN⟩ := (run_mono c _).1 _ _ _ ih; exact hN N (Nat.le_refl _)
theorem run_leC (c : Cfg) {n m : Nat} (h : n ≤ m) {f : V} {a : List V} {H : Heap} {r : CRes × Heap} (hr : (run c n).C f a H = some r) : (run c m).C f a H = some r := by
  induction h with
  | refl => exact hr
  | step _ ih => obtain ⟨N, hN⟩ := (run_mono c _).2.1 _ _ _ _ ih; exact hN N (Nat.le_refl _)
theorem run_leD (c : Cfg) {n m : Nat} (h : n ≤ m) {f : V} {a : List V} {H : Heap} {p : Pan} {r : Heap × Pan} (hr : (run c n).D f a H p = some r) : (run c m).D f a H p = some r := by
  induction h with
  | refl => exact hr
  | step _ ih => obtain ⟨N, hN⟩ := (run_mono c _).2.2 _ _ _ _ _ ih; exact hN N (Nat.le_refl _)

open Classical in
/-- the limit of a growing family -/
noncomputable def lim {α : Type} (F : Nat → Option α) : Option α := if h : ∃ n r, F n = some r then F h.choose else none

theorem lim_some {α : Type} {F : Nat → Option α} (hm : ∀ n m r, n ≤ m → F n = some r → F m = some r) {r : α} : lim F = some r ↔ ∃ n, F n = some r := by
  unfold lim
  constructor
  · intro h
    split at h
    · exact ⟨_, h⟩
    · cases h
  · rintro ⟨n, hn⟩
    have hex : ∃ n r, F n = some r := ⟨n, r, hn⟩
    rw [dif_pos hex]
    obtain ⟨r', h'⟩ := hex.choose_spec
    have e1 := hm _ (max hex.choose n) r' (Nat.le_max_left _ _) h'
    have e2 := hm _ (max hex.choose n) r (Nat.le_max_right _ _) hn
    rw [e1] at e2
    rw [h']
    exact e2

noncomputable def Ei (c : Cfg) : ExecF := fun code s => lim fun n => (run c n).E code s
noncomputable def Ci (c : Cfg) : CallF := fun f a h => lim fun n => (run c n).C f a h
noncomputable def Di (c : Cfg) : DCallF := fun f a h p => lim fun n => (run c n).D f a h p

theorem Ei_some {c : Cfg} {code : Code} {s : St} {r : Ax × St} : Ei c code s = some r ↔ ∃ n, (run c n).E code s = some r := lim_some fun _ _ _ h hr => run_leE c h hr
theorem Ci_some {c : Cfg} {f : V} {a : List V} {h : Heap} {r : CRes × Heap} : Ci c f a h = some r ↔ ∃ n, (run c n).C f a h = some r := lim_some fun _ _ _ h hr => run_leC c h hr
theorem Di_some {c : Cfg} {f : V} {a : List V} {h : Heap} {p : Pan} {r : Heap × Pan} : Di c f a h p = some r ↔ ∃ n, (run c n).D f a h p = some r := lim_some fun _ _ _ h hr => run_leD c h hr

theorem Ei_ap (c : Cfg) : EAp (fun n => (run c n).E) (Ei c) := fun code s r h => by obtain ⟨n, hn⟩ := Ei_some.1 h; exact ⟨n, fun m hm => run_leE c hm hn⟩
theorem Ci_ap (c : Cfg) : CAp (fun n => (run c n).C) (Ci c) := fun f a h r hc => by obtain ⟨n, hn⟩ := Ci_some.1 hc; exact ⟨n, fun m hm => run_leC c hm hn⟩
theorem Di_ap (c : Cfg) : DAp (fun n => (run c n).D) (Di c) := fun f a h p r hd => by obtain ⟨n, hn⟩ := Di_some.1 hd; exact ⟨n, fun m hm => run_leD c hm hn⟩
theorem Ei_up (c : Cfg) (n : Nat) : EAp (fun _ => Ei c) (run c n).E := fun code s r h => ⟨0, fun _ _ => Ei_some.2 ⟨n, h⟩⟩
theorem Ci_up (c : Cfg) (n : Nat) : CAp (fun _ => Ci c) (run c n).C := fun f a h r hc => ⟨0, fun _ _ => Ci_some.2 ⟨n, hc⟩⟩
theorem Di_up (c : Cfg) (n : Nat) : DAp (fun _ => Di c) (run c n).D := fun f a h p r hd => ⟨0, fun _ _ => Di_some.2 ⟨n, hd⟩⟩

theorem opt_ext {α : Type} {a b : Option α} (h : ∀ r, a = some r ↔ b = some r) : a = b := by
  cases a with
  | none =>
    cases b with
    | none => rfl
    | some y => exact ((h y).2 rfl)
  | some x => exact ((h x).1 rfl).symm

theorem Ei_eq (c : Cfg) (code : Code) (s : St) : Ei c code s = execS c (Ei c) (Ci c) code s := opt_ext fun r => by
  constructor
  · intro h
    obtain ⟨n, hn⟩ := Ei_some.1 h
    cases n with
    | zero => simp [run] at hn
    | succ n => obtain ⟨N, hN⟩ := execS_ap (c := c) (Ei_up c n) (Ci_up c n) code s r hn; exact hN N (Nat.le_refl _)
  · intro h
    obtain ⟨N, hN⟩ := execS_ap (c := c) (Ei_ap c) (Ci_ap c) code s r h
    exact Ei_some.2 ⟨N + 1, hN N (Nat.le_refl _)⟩
theorem Ci_eq (c : Cfg) (f : V) (a : List V) (h : Heap) : Ci c f a h = callS c (Ei c) (Di c) f a h := opt_ext fun r => by
  constructor
  · intro h
    obtain ⟨n, hn⟩ := Ci_some.1 h
    cases n with
    | zero => simp [run] at hn
    | succ n => obtain ⟨N, hN⟩ := callS_ap (c := c) (Ei_up c n) (Di_up c n) f a _ r hn; exact hN N (Nat.le_refl _)
  · intro h
    obtain ⟨N, hN⟩ := callS_ap (c := c) (Ei_ap c) (Di_ap c) f a _ r h
    exact Ci_some.2 ⟨N + 1, hN N (Nat.le_refl _)⟩
theorem Di_eq (c : Cfg) (f : V) (a : List V) (h : Heap) (p : Pan) : Di c f a h p = dbodyS c (Ei c) f a h p := opt_ext fun r => by
  constructor
  · intro h
    obtain ⟨n, hn⟩ := Di_some.1 h
    cases n with
    | zero => simp [run] at hn
    | succ n => obtain ⟨N, hN⟩ := dbodyS_ap (c := c) (Ei_up c n) f a _ p r hn; exact hN N (Nat.le_refl _)
  · intro h
    obtain ⟨N, hN⟩ := dbodyS_ap (c := c) (Ei_ap c) f a _ p r h
    exact Di_some.2 ⟨N + 1, hN N (Nat.le_refl _)⟩

/-- A CONTRACT FROM THE LIMIT. -/
theorem psim_of_inf {c : Cfg} (hP : PrOk c.P) (hX : ExtOk c) {f : FuncId} {xs : List V} {r : CRes} (h : outS (bodyS c (Ei c) (Di c) f xs emptyH) = some r) : PSim c.P c.glob f xs r := by
  cases hb : bodyS c (Ei c) (Di c) f xs emptyH with
  | none => rw [hb] at h; cases h
  | some y =>
    obtain ⟨N, hN⟩ := bodyS_ap (Ei_ap c) (Di_ap c) hb
    refine psim_of_run hP hX (n := N) ?_
    rw [hN N (Nat.le_refl _), ← hb]
    exact h

end Go.Ab
