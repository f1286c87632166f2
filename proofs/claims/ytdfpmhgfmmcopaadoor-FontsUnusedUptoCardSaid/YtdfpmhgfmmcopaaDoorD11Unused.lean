/- FontsUnused: the law. -/
import Derived.Test.YtdfpmhgfmmcopaaDoorD11Great
set_option linter.unusedVariables false
set_option linter.unusedSimpArgs false
set_option linter.unusedSectionVars false
set_option linter.deprecated false
namespace Go.Ab
open Go.Proofs
set_option maxRecDepth 100000
set_option maxHeartbeats 4000000
theorem append_R0 {P : Program} {α : Type} {E : α → List V} {sz : Nat} {h : Heap} {fl : Fl} {l : List α} [hE : EncC E sz] {ts : Array TypeId} {fl2 : Fl} (ht : apok P ts sz = true) (hl : l.length ≤ 4294967296) :
    appendV P h false ts (R fl E l) (R fl2 E []) = some (R fl E l, h) := by
  obtain ⟨b, h1, h2⟩ := apok_apz ht
  exact append_R_nil h1 hl h2
theorem nth_app_last {α : Type} [Inhabited α] (l : List α) (x : α) : nth (l ++ [x]) l.length = x := by
  rw [nth_append_right (Nat.le_refl _), Nat.sub_self]; rfl
theorem find_ext {n : Nat} {p q : Nat → Bool} (h : ∀ i, i < n → p i = q i) (hq : q n = false) : (List.range (n + 1)).find? q = (List.range n).find? p := by
  rw [List.range_succ, List.find?_append]
  have e : (List.range n).find? q = (List.range n).find? p := by
    have key : ∀ l : List Nat, (∀ i ∈ l, p i = q i) → l.find? q = l.find? p := by
      intro l
      induction l with
      | nil => intro _; rfl
      | cons x l ih =>
        intro hl
        rw [List.find?_cons, List.find?_cons, hl x (by simp), ih (fun i hi => hl i (List.mem_cons_of_mem _ hi))]
    exact key _ (fun i hi => h i (by simpa using hi))
  rw [e]
  simp [hq]
/-- one glyph and one pair more -/
def moreF (f : Font) (g : Glyph) (k : Kern) : Font := ⟨f.gs ++ [g], f.other, f.ks ++ [k]⟩
theorem oneS_more {f : Font} {g : Glyph} {k : Kern} {r : Int} (h : ¬ (g.lo ≤ r ∧ r ≤ g.hi)) : oneS (moreF f g k) r = oneS f r := by
  have e : (List.range (moreF f g k).gs.length).find? (gHit (moreF f g k) r) = (List.range f.gs.length).find? (gHit f r) := by
    have hl : (moreF f g k).gs.length = f.gs.length + 1 := by simp [moreF]
    rw [hl]
    refine find_ext (fun i hi => ?_) ?_
    · unfold gHit moreF; rw [nth_append_left hi]
    · unfold gHit moreF; rw [nth_app_last]; exact decide_eq_false h
  unfold oneS
  rw [e]
  split
  · rename_i i hi
    have hil : i < f.gs.length := by simpa using List.mem_of_find?_eq_some hi
    unfold moreF; rw [nth_append_left hil]
  · rfl
theorem nearS_more {f : Font} {g : Glyph} {k : Kern} {a b : Int} (h : ¬ (k.a = a ∧ k.b = b)) : nearS (moreF f g k) a b = nearS f a b := by
  have e : (List.range (moreF f g k).ks.length).find? (kHit (moreF f g k) a b) = (List.range f.ks.length).find? (kHit f a b) := by
    have hl : (moreF f g k).ks.length = f.ks.length + 1 := by simp [moreF]
    rw [hl]
    refine find_ext (fun i hi => ?_) ?_
    · unfold kHit moreF; rw [nth_append_left hi]
    · unfold kHit moreF; rw [nth_app_last]; exact decide_eq_false h
  unfold nearS
  rw [e]
  split
  · rename_i i hi
    have hil : i < f.ks.length := by simpa using List.mem_of_find?_eq_some hi
    unfold moreF; rw [nth_append_left hil]
  · rfl
/-- the new ones are not met in a text -/
def unmet (g : Glyph) (k : Kern) (l : List Int) (n : Nat) : Prop := ∀ i, i < n → ¬ (g.lo ≤ nth l i ∧ nth l i ≤ g.hi) ∧ (0 < i → ¬ (k.a = nth l (i - 1) ∧ k.b = nth l i))
theorem wTo_more {f : Font} {g : Glyph} {k : Kern} {l : List Int} : ∀ {n : Nat}, unmet g k l n → wTo (moreF f g k) l n = wTo f l n := by
  intro n h
  refine sumTo_congr fun i hi => ?_
  obtain ⟨h1, h2⟩ := h i hi
  unfold addS
  rw [oneS_more h1]
  split
  · rename_i h0; rw [nearS_more (h2 h0)]
  · rfl
theorem fitTo_more {f : Font} {g : Glyph} {k : Kern} {l : List Int} {room : Int} : ∀ {n : Nat}, unmet g k l n → fitTo (moreF f g k) l room n = fitTo f l room n
  | 0, _ => rfl
  | n + 1, h => by
    have h1 := wTo_more (f := f) h
    have h2 := fitTo_more (f := f) (room := room) (n := n) (fun i hi => h i (by omega))
    show (if _ then _ else _) = (if _ then _ else _)
    rw [h1, h2]
theorem unmet_next {g : Glyph} {k : Kern} {l : List Int} {i : Nat} (h : unmet g k l i) (h2 : ¬ (g.lo ≤ nth l i ∧ nth l i ≤ g.hi) ∧ (0 < i → ¬ (k.a = nth l (i - 1) ∧ k.b = nth l i))) : unmet g k l (i + 1) := by
  intro j hj
  by_cases e : j = i
  · subst e; exact h2
  · exact h j (by omega)
theorem C5 (f : Font) (s : List UInt8) (room lo hi wd ka kb kby : Int) (hs : f.gs.length < 1048577 ∧ f.ks.length < 1048577) (hl : s.length < 1099511627776) : Kc cfg 5 [.agg [R fl0 eG f.gs, .int .i64 f.other, R fl0 eK f.ks], .str s, .int .i64 room, .int .i64 lo, .int .i64 hi, .int .i64 wd, .int .i64 ka, .int .i64 kb, .int .i64 kby] (.ret (.bool true)) := by
  have hs2 : f.gs.length < 1099511627776 ∧ f.ks.length < 1099511627776 := by omega
  have hs3 : f.gs.length < 1099511627776 ∧ f.ks.length < 1099511627776 ∧ s.length < 1099511627776 := ⟨by omega, by omega, hl⟩
  by_cases hck : checkS f = 0
  · by_cases he : (runesG s).2 = 0
    · obtain ⟨hs4, hr⟩ := runesG_all he
      have hn := runesG_len' s
      have hw := widthS_of hck he
      have hft := fitS_of (room := room) hck he
      generalize hlg : (runesG s).1 = l at *
      have fg : ∀ (a b : Bool) (tok : Option Nat), V.row a b [.int .i64 lo, .int .i64 hi, .int .i64 wd] 1 tok = R (a, b, tok) eG [⟨lo, hi, wd⟩] := fun _ _ _ => rfl
      have fk : ∀ (a b : Bool) (tok : Option Nat), V.row a b [.int .i64 ka, .int .i64 kb, .int .i64 kby] 1 tok = R (a, b, tok) eK [⟨ka, kb, kby⟩] := fun _ _ _ => rfl
      have hA1 : ∀ (ts : List (Option Nat)) (k : Nat) (a b : Bool), ts[k]? = some (some 3) → App ts 3 (a, b, some k) := fun ts k a b h => ⟨.inr ⟨k, rfl, h⟩⟩
      have hA0 : ∀ (ts : List (Option Nat)), App ts 3 (false, true, none) := fun ts => App.full _ _ _
      have ag0 : ∀ h : Heap, appendV Tryd.prog h false #[22, 22] (V.row false true [] 0 none) (R fl0 eG []) = some (R (false, true, none) eG [], h) := fun h => append_R0 (E := eG) (l := []) (fl := (false, true, none)) (by simp) (by simp)
      have ak0 : ∀ h : Heap, appendV Tryd.prog h false #[23, 23] (V.row false true [] 0 none) (R fl0 eK []) = some (R (false, true, none) eK [], h) := fun h => append_R0 (E := eK) (l := []) (fl := (false, true, none)) (by simp) (by simp)
      have ag1 : ¬ f.gs = [] → ∀ h : Heap, appendV Tryd.prog h false #[22, 22] (V.row false true [] 0 none) (R fl0 eG f.gs) = some (R (false, false, some h.ts.length) eG f.gs, bump h none 3) := fun hne h => append_Rn (E := eG) (l := []) (fl := (false, true, none)) (by simp) hne (App.full _ _ _) (by simp; omega)
      have ak1 : ¬ f.ks = [] → ∀ h : Heap, appendV Tryd.prog h false #[23, 23] (V.row false true [] 0 none) (R fl0 eK f.ks) = some (R (false, false, some h.ts.length) eK f.ks, bump h none 3) := fun hne h => append_Rn (E := eK) (l := []) (fl := (false, true, none)) (by simp) hne (App.full _ _ _) (by simp; omega)
      have hgl : ((moreF f ⟨lo, hi, wd⟩ ⟨ka, kb, kby⟩).gs.length < 1099511627776 ∧ (moreF f ⟨lo, hi, wd⟩ ⟨ka, kb, kby⟩).ks.length < 1099511627776) := by simp [moreF]; omega
      have cR := fun (q1 q2 : Fl) (h : Heap) => S14 (moreF f ⟨lo, hi, wd⟩ ⟨ka, kb, kby⟩) hgl q1 q2 h
      have cP := fun (q1 q2 : Fl) (h : Heap) => S13 (moreF f ⟨lo, hi, wd⟩ ⟨ka, kb, kby⟩) hgl q1 q2 h
      have cW := fun (q1 q2 : Fl) (h : Heap) => S11 (moreF f ⟨lo, hi, wd⟩ ⟨ka, kb, kby⟩) s hgl hl q1 q2 h
      have cF := fun (q1 q2 : Fl) (h : Heap) => S15 (moreF f ⟨lo, hi, wd⟩ ⟨ka, kb, kby⟩) s room hgl hl q1 q2 h
      generalize hmf : moreF f ⟨lo, hi, wd⟩ ⟨ka, kb, kby⟩ = mf at *
      have m1 : mf.gs = f.gs ++ [⟨lo, hi, wd⟩] := by rw [← hmf]; rfl
      have m2 : mf.other = f.other := by rw [← hmf]; rfl
      have m3 : mf.ks = f.ks ++ [⟨ka, kb, kby⟩] := by rw [← hmf]; rfl
      rw [m1, m2, m3] at cR cP cW cF
      have hfin : ∀ (n : Nat), checkS mf = 0 → unmet ⟨lo, hi, wd⟩ ⟨ka, kb, kby⟩ l l.length → widthS mf s = (wTo f l l.length, 0) ∧ fitS mf s room = ((fitTo f l room l.length).1, (fitTo f l room l.length).2, 0) := by
        intro _ h0 hu
        have a1 := widthS_of h0 he
        have a2 := fitS_of (room := room) h0 he
        rw [hlg, ← hmf, wTo_more hu] at a1
        rw [hlg, ← hmf, fitTo_more hu] at a2
        rw [← hmf]
        exact ⟨a1, a2⟩
      have c1 : App [some 3] 3 (false, false, some 0) := hA1 _ _ _ _ rfl
      have c2 : App [none, some 3, some 3] 3 (false, false, some 2) := hA1 _ _ _ _ rfl
      have c3 : App [none, some 3] 3 (false, true, none) := hA0 _
      have c4 : App [] 3 (false, true, none) := hA0 _
      have c5 : App [some 3] 3 (false, true, none) := hA0 _
      have c6 : App [some 3, some 3] 3 (false, false, some 1) := hA1 _ _ _ _ rfl
      have agz : f.gs = [] → ∀ h : Heap, appendV Tryd.prog h false #[22, 22] (V.row false true [] 0 none) (R fl0 eG f.gs) = some (R (false, true, none) eG f.gs, h) := fun e h => by rw [e]; exact ag0 h
      have akz : f.ks = [] → ∀ h : Heap, appendV Tryd.prog h false #[23, 23] (V.row false true [] 0 none) (R fl0 eK f.ks) = some (R (false, true, none) eK f.ks, h) := fun e h => by rw [e]; exact ak0 h
      clear ag0 ak0
      by_cases hcm : checkS mf = 0
      · by_cases hg0 : f.gs = []
        · have ag := agz hg0
          clear agz ag1
          by_cases hk0 : f.ks = []
          · have ak := akz hk0
            clear akz ak1
            refine outS_of_wp cfg (fn := Tryd.f5) Tryd.func5 rfl (by simp [Tryd.f5]) ?_
            simp (disch := first | assumption | omega | (simp; done) | (simp; omega)) [-getElem?_pos, List.getElem?_cons_zero, List.getElem?_cons_succ, Tryd.f5, hck, he, hw, hft, hlg, hcm]
            repeat' (first | (refine wpc_split _ (fun hc => ?_) (fun hc => ?_) <;> (try simp at hc)) | (refine ww_split _ (fun hc => ?_) (fun hc => ?_) <;> (try simp at hc)) | (refine wp_drawF (by kernel_rfl) ?_) | (refine wk_yldW _ ?_) | (refine owe ?_ (fun ho => ?_)) | (simp (disch := first | assumption | omega | (simp; done) | (simp; omega)) [hck, he, hw, hft, hlg, hcm, ag, ak, fg, fk, bumpT, append_R1, cR, cP, -getElem?_pos, List.getElem?_cons_zero, List.getElem?_cons_succ]))
            refine wp_loopE cfg rfl (fun f0 h0 m fr h => ∃ i : Nat, fr 1 = f0 1 ∧ fr 2 = f0 2 ∧ fr 3 = f0 3 ∧ fr 4 = f0 4 ∧ fr 6 = f0 6 ∧ fr 7 = f0 7 ∧ fr 9 = f0 9 ∧ fr 19 = f0 19 ∧ fr 21 = f0 21 ∧ fr 22 = .int .i64 i ∧ h.bs = h0.bs ∧ (i + m = l.length) ∧ (unmet ⟨lo, hi, wd⟩ ⟨ka, kb, kby⟩ l i)) (l.length) _ _ ⟨0, rfl, rfl, rfl, rfl, rfl, rfl, rfl, rfl, rfl, by first | rfl | (simp; done) | (simp [R]; done) | simp [R], rfl, by first | rfl | (simp; done) | omega, fun j hj => by omega⟩ ?_
            rintro Am Af Ah ⟨i, A1, A2, A3, A4, A6, A7, A9, A19, A21, A22, Abs, hm, hu⟩ Aih
            try simp at A1 A2 A3 A4 A6 A7 A9 A19 A21 Abs
            by_cases hil : i < l.length
            · have h4 : 0 < i → (((i : Int) - 1).toNat) = i - 1 := by omega
              repeat' (first | (refine wpc_split _ (fun hc => ?_) (fun hc => ?_) <;> (try simp at hc)) | (refine ww_split _ (fun hc => ?_) (fun hc => ?_) <;> (try simp at hc)) | (refine wp_drawF (by kernel_rfl) ?_) | (refine wk_yldW _ ?_) | (refine owe ?_ (fun ho => ?_)) | (simp (disch := first | assumption | omega | (simp; done) | (simp; omega)) [A1, A2, A3, A4, A6, A7, A9, A19, A21, A22, Abs, eI, h4, -getElem?_pos, List.getElem?_cons_zero, List.getElem?_cons_succ]))
              all_goals exact Aih (Am - 1) _ _ (by omega) ⟨i + 1, by simp [A1, A2, A3, A4, A6, A7, A9, A19, A21, A22, Abs], by simp [A1, A2, A3, A4, A6, A7, A9, A19, A21, A22, Abs], by simp [A1, A2, A3, A4, A6, A7, A9, A19, A21, A22, Abs], by simp [A1, A2, A3, A4, A6, A7, A9, A19, A21, A22, Abs], by simp [A1, A2, A3, A4, A6, A7, A9, A19, A21, A22, Abs], by simp [A1, A2, A3, A4, A6, A7, A9, A19, A21, A22, Abs], by simp [A1, A2, A3, A4, A6, A7, A9, A19, A21, A22, Abs], by simp [A1, A2, A3, A4, A6, A7, A9, A19, A21, A22, Abs], by simp [A1, A2, A3, A4, A6, A7, A9, A19, A21, A22, Abs], by simp [A1, A2, A3, A4, A6, A7, A9, A19, A21, A22, Abs], by simp [A1, A2, A3, A4, A6, A7, A9, A19, A21, A22, Abs], by omega, unmet_next hu (show (¬ (lo ≤ nth l i ∧ nth l i ≤ hi) ∧ (0 < i → ¬ (ka = nth l (i - 1) ∧ kb = nth l i))) by omega)⟩
            · have hil2 : i = l.length := by omega
              subst hil2
              obtain ⟨w1', f1'⟩ := hfin 0 hcm hu
              repeat' (first | (refine wpc_split _ (fun hc => ?_) (fun hc => ?_) <;> (try simp at hc)) | (refine ww_split _ (fun hc => ?_) (fun hc => ?_) <;> (try simp at hc)) | (refine wp_drawF (by kernel_rfl) ?_) | (refine wk_yldW _ ?_) | (refine owe ?_ (fun ho => ?_)) | (simp (disch := first | assumption | omega | (simp; done) | (simp; omega)) [A1, A2, A3, A4, A6, A7, A9, A19, A21, A22, Abs, hck, hw, hft, cW, cF, w1', f1', -getElem?_pos, List.getElem?_cons_zero, List.getElem?_cons_succ]))
          · have ak := ak1 hk0
            clear akz ak1
            refine outS_of_wp cfg (fn := Tryd.f5) Tryd.func5 rfl (by simp [Tryd.f5]) ?_
            simp (disch := first | assumption | omega | (simp; done) | (simp; omega)) [-getElem?_pos, List.getElem?_cons_zero, List.getElem?_cons_succ, Tryd.f5, hck, he, hw, hft, hlg, hcm]
            repeat' (first | (refine wpc_split _ (fun hc => ?_) (fun hc => ?_) <;> (try simp at hc)) | (refine ww_split _ (fun hc => ?_) (fun hc => ?_) <;> (try simp at hc)) | (refine wp_drawF (by kernel_rfl) ?_) | (refine wk_yldW _ ?_) | (refine owe ?_ (fun ho => ?_)) | (simp (disch := first | assumption | omega | (simp; done) | (simp; omega)) [hck, he, hw, hft, hlg, hcm, ag, ak, fg, fk, bumpT, append_R1, cR, cP, -getElem?_pos, List.getElem?_cons_zero, List.getElem?_cons_succ]))
            refine wp_loopE cfg rfl (fun f0 h0 m fr h => ∃ i : Nat, fr 1 = f0 1 ∧ fr 2 = f0 2 ∧ fr 3 = f0 3 ∧ fr 4 = f0 4 ∧ fr 6 = f0 6 ∧ fr 7 = f0 7 ∧ fr 9 = f0 9 ∧ fr 19 = f0 19 ∧ fr 21 = f0 21 ∧ fr 22 = .int .i64 i ∧ h.bs = h0.bs ∧ (i + m = l.length) ∧ (unmet ⟨lo, hi, wd⟩ ⟨ka, kb, kby⟩ l i)) (l.length) _ _ ⟨0, rfl, rfl, rfl, rfl, rfl, rfl, rfl, rfl, rfl, by first | rfl | (simp; done) | (simp [R]; done) | simp [R], rfl, by first | rfl | (simp; done) | omega, fun j hj => by omega⟩ ?_
            rintro Am Af Ah ⟨i, A1, A2, A3, A4, A6, A7, A9, A19, A21, A22, Abs, hm, hu⟩ Aih
            try simp at A1 A2 A3 A4 A6 A7 A9 A19 A21 Abs
            by_cases hil : i < l.length
            · have h4 : 0 < i → (((i : Int) - 1).toNat) = i - 1 := by omega
              repeat' (first | (refine wpc_split _ (fun hc => ?_) (fun hc => ?_) <;> (try simp at hc)) | (refine ww_split _ (fun hc => ?_) (fun hc => ?_) <;> (try simp at hc)) | (refine wp_drawF (by kernel_rfl) ?_) | (refine wk_yldW _ ?_) | (refine owe ?_ (fun ho => ?_)) | (simp (disch := first | assumption | omega | (simp; done) | (simp; omega)) [A1, A2, A3, A4, A6, A7, A9, A19, A21, A22, Abs, eI, h4, -getElem?_pos, List.getElem?_cons_zero, List.getElem?_cons_succ]))
              all_goals exact Aih (Am - 1) _ _ (by omega) ⟨i + 1, by simp [A1, A2, A3, A4, A6, A7, A9, A19, A21, A22, Abs], by simp [A1, A2, A3, A4, A6, A7, A9, A19, A21, A22, Abs], by simp [A1, A2, A3, A4, A6, A7, A9, A19, A21, A22, Abs], by simp [A1, A2, A3, A4, A6, A7, A9, A19, A21, A22, Abs], by simp [A1, A2, A3, A4, A6, A7, A9, A19, A21, A22, Abs], by simp [A1, A2, A3, A4, A6, A7, A9, A19, A21, A22, Abs], by simp [A1, A2, A3, A4, A6, A7, A9, A19, A21, A22, Abs], by simp [A1, A2, A3, A4, A6, A7, A9, A19, A21, A22, Abs], by simp [A1, A2, A3, A4, A6, A7, A9, A19, A21, A22, Abs], by simp [A1, A2, A3, A4, A6, A7, A9, A19, A21, A22, Abs], by simp [A1, A2, A3, A4, A6, A7, A9, A19, A21, A22, Abs], by omega, unmet_next hu (show (¬ (lo ≤ nth l i ∧ nth l i ≤ hi) ∧ (0 < i → ¬ (ka = nth l (i - 1) ∧ kb = nth l i))) by omega)⟩
            · have hil2 : i = l.length := by omega
              subst hil2
              obtain ⟨w1', f1'⟩ := hfin 0 hcm hu
              repeat' (first | (refine wpc_split _ (fun hc => ?_) (fun hc => ?_) <;> (try simp at hc)) | (refine ww_split _ (fun hc => ?_) (fun hc => ?_) <;> (try simp at hc)) | (refine wp_drawF (by kernel_rfl) ?_) | (refine wk_yldW _ ?_) | (refine owe ?_ (fun ho => ?_)) | (simp (disch := first | assumption | omega | (simp; done) | (simp; omega)) [A1, A2, A3, A4, A6, A7, A9, A19, A21, A22, Abs, hck, hw, hft, cW, cF, w1', f1', -getElem?_pos, List.getElem?_cons_zero, List.getElem?_cons_succ]))
        · have ag := ag1 hg0
          clear agz ag1
          by_cases hk0 : f.ks = []
          · have ak := akz hk0
            clear akz ak1
            refine outS_of_wp cfg (fn := Tryd.f5) Tryd.func5 rfl (by simp [Tryd.f5]) ?_
            simp (disch := first | assumption | omega | (simp; done) | (simp; omega)) [-getElem?_pos, List.getElem?_cons_zero, List.getElem?_cons_succ, Tryd.f5, hck, he, hw, hft, hlg, hcm]
            repeat' (first | (refine wpc_split _ (fun hc => ?_) (fun hc => ?_) <;> (try simp at hc)) | (refine ww_split _ (fun hc => ?_) (fun hc => ?_) <;> (try simp at hc)) | (refine wp_drawF (by kernel_rfl) ?_) | (refine wk_yldW _ ?_) | (refine owe ?_ (fun ho => ?_)) | (simp (disch := first | assumption | omega | (simp; done) | (simp; omega)) [hck, he, hw, hft, hlg, hcm, ag, ak, fg, fk, bumpT, append_R1, cR, cP, -getElem?_pos, List.getElem?_cons_zero, List.getElem?_cons_succ]))
            refine wp_loopE cfg rfl (fun f0 h0 m fr h => ∃ i : Nat, fr 1 = f0 1 ∧ fr 2 = f0 2 ∧ fr 3 = f0 3 ∧ fr 4 = f0 4 ∧ fr 6 = f0 6 ∧ fr 7 = f0 7 ∧ fr 9 = f0 9 ∧ fr 19 = f0 19 ∧ fr 21 = f0 21 ∧ fr 22 = .int .i64 i ∧ h.bs = h0.bs ∧ (i + m = l.length) ∧ (unmet ⟨lo, hi, wd⟩ ⟨ka, kb, kby⟩ l i)) (l.length) _ _ ⟨0, rfl, rfl, rfl, rfl, rfl, rfl, rfl, rfl, rfl, by first | rfl | (simp; done) | (simp [R]; done) | simp [R], rfl, by first | rfl | (simp; done) | omega, fun j hj => by omega⟩ ?_
            rintro Am Af Ah ⟨i, A1, A2, A3, A4, A6, A7, A9, A19, A21, A22, Abs, hm, hu⟩ Aih
            try simp at A1 A2 A3 A4 A6 A7 A9 A19 A21 Abs
            by_cases hil : i < l.length
            · have h4 : 0 < i → (((i : Int) - 1).toNat) = i - 1 := by omega
              repeat' (first | (refine wpc_split _ (fun hc => ?_) (fun hc => ?_) <;> (try simp at hc)) | (refine ww_split _ (fun hc => ?_) (fun hc => ?_) <;> (try simp at hc)) | (refine wp_drawF (by kernel_rfl) ?_) | (refine wk_yldW _ ?_) | (refine owe ?_ (fun ho => ?_)) | (simp (disch := first | assumption | omega | (simp; done) | (simp; omega)) [A1, A2, A3, A4, A6, A7, A9, A19, A21, A22, Abs, eI, h4, -getElem?_pos, List.getElem?_cons_zero, List.getElem?_cons_succ]))
              all_goals exact Aih (Am - 1) _ _ (by omega) ⟨i + 1, by simp [A1, A2, A3, A4, A6, A7, A9, A19, A21, A22, Abs], by simp [A1, A2, A3, A4, A6, A7, A9, A19, A21, A22, Abs], by simp [A1, A2, A3, A4, A6, A7, A9, A19, A21, A22, Abs], by simp [A1, A2, A3, A4, A6, A7, A9, A19, A21, A22, Abs], by simp [A1, A2, A3, A4, A6, A7, A9, A19, A21, A22, Abs], by simp [A1, A2, A3, A4, A6, A7, A9, A19, A21, A22, Abs], by simp [A1, A2, A3, A4, A6, A7, A9, A19, A21, A22, Abs], by simp [A1, A2, A3, A4, A6, A7, A9, A19, A21, A22, Abs], by simp [A1, A2, A3, A4, A6, A7, A9, A19, A21, A22, Abs], by simp [A1, A2, A3, A4, A6, A7, A9, A19, A21, A22, Abs], by simp [A1, A2, A3, A4, A6, A7, A9, A19, A21, A22, Abs], by omega, unmet_next hu (show (¬ (lo ≤ nth l i ∧ nth l i ≤ hi) ∧ (0 < i → ¬ (ka = nth l (i - 1) ∧ kb = nth l i))) by omega)⟩
            · have hil2 : i = l.length := by omega
              subst hil2
              obtain ⟨w1', f1'⟩ := hfin 0 hcm hu
              repeat' (first | (refine wpc_split _ (fun hc => ?_) (fun hc => ?_) <;> (try simp at hc)) | (refine ww_split _ (fun hc => ?_) (fun hc => ?_) <;> (try simp at hc)) | (refine wp_drawF (by kernel_rfl) ?_) | (refine wk_yldW _ ?_) | (refine owe ?_ (fun ho => ?_)) | (simp (disch := first | assumption | omega | (simp; done) | (simp; omega)) [A1, A2, A3, A4, A6, A7, A9, A19, A21, A22, Abs, hck, hw, hft, cW, cF, w1', f1', -getElem?_pos, List.getElem?_cons_zero, List.getElem?_cons_succ]))
          · have ak := ak1 hk0
            clear akz ak1
            refine outS_of_wp cfg (fn := Tryd.f5) Tryd.func5 rfl (by simp [Tryd.f5]) ?_
            simp (disch := first | assumption | omega | (simp; done) | (simp; omega)) [-getElem?_pos, List.getElem?_cons_zero, List.getElem?_cons_succ, Tryd.f5, hck, he, hw, hft, hlg, hcm]
            repeat' (first | (refine wpc_split _ (fun hc => ?_) (fun hc => ?_) <;> (try simp at hc)) | (refine ww_split _ (fun hc => ?_) (fun hc => ?_) <;> (try simp at hc)) | (refine wp_drawF (by kernel_rfl) ?_) | (refine wk_yldW _ ?_) | (refine owe ?_ (fun ho => ?_)) | (simp (disch := first | assumption | omega | (simp; done) | (simp; omega)) [hck, he, hw, hft, hlg, hcm, ag, ak, fg, fk, bumpT, append_R1, cR, cP, -getElem?_pos, List.getElem?_cons_zero, List.getElem?_cons_succ]))
            refine wp_loopE cfg rfl (fun f0 h0 m fr h => ∃ i : Nat, fr 1 = f0 1 ∧ fr 2 = f0 2 ∧ fr 3 = f0 3 ∧ fr 4 = f0 4 ∧ fr 6 = f0 6 ∧ fr 7 = f0 7 ∧ fr 9 = f0 9 ∧ fr 19 = f0 19 ∧ fr 21 = f0 21 ∧ fr 22 = .int .i64 i ∧ h.bs = h0.bs ∧ (i + m = l.length) ∧ (unmet ⟨lo, hi, wd⟩ ⟨ka, kb, kby⟩ l i)) (l.length) _ _ ⟨0, rfl, rfl, rfl, rfl, rfl, rfl, rfl, rfl, rfl, by first | rfl | (simp; done) | (simp [R]; done) | simp [R], rfl, by first | rfl | (simp; done) | omega, fun j hj => by omega⟩ ?_
            rintro Am Af Ah ⟨i, A1, A2, A3, A4, A6, A7, A9, A19, A21, A22, Abs, hm, hu⟩ Aih
            try simp at A1 A2 A3 A4 A6 A7 A9 A19 A21 Abs
            by_cases hil : i < l.length
            · have h4 : 0 < i → (((i : Int) - 1).toNat) = i - 1 := by omega
              repeat' (first | (refine wpc_split _ (fun hc => ?_) (fun hc => ?_) <;> (try simp at hc)) | (refine ww_split _ (fun hc => ?_) (fun hc => ?_) <;> (try simp at hc)) | (refine wp_drawF (by kernel_rfl) ?_) | (refine wk_yldW _ ?_) | (refine owe ?_ (fun ho => ?_)) | (simp (disch := first | assumption | omega | (simp; done) | (simp; omega)) [A1, A2, A3, A4, A6, A7, A9, A19, A21, A22, Abs, eI, h4, -getElem?_pos, List.getElem?_cons_zero, List.getElem?_cons_succ]))
              all_goals exact Aih (Am - 1) _ _ (by omega) ⟨i + 1, by simp [A1, A2, A3, A4, A6, A7, A9, A19, A21, A22, Abs], by simp [A1, A2, A3, A4, A6, A7, A9, A19, A21, A22, Abs], by simp [A1, A2, A3, A4, A6, A7, A9, A19, A21, A22, Abs], by simp [A1, A2, A3, A4, A6, A7, A9, A19, A21, A22, Abs], by simp [A1, A2, A3, A4, A6, A7, A9, A19, A21, A22, Abs], by simp [A1, A2, A3, A4, A6, A7, A9, A19, A21, A22, Abs], by simp [A1, A2, A3, A4, A6, A7, A9, A19, A21, A22, Abs], by simp [A1, A2, A3, A4, A6, A7, A9, A19, A21, A22, Abs], by simp [A1, A2, A3, A4, A6, A7, A9, A19, A21, A22, Abs], by simp [A1, A2, A3, A4, A6, A7, A9, A19, A21, A22, Abs], by simp [A1, A2, A3, A4, A6, A7, A9, A19, A21, A22, Abs], by omega, unmet_next hu (show (¬ (lo ≤ nth l i ∧ nth l i ≤ hi) ∧ (0 < i → ¬ (ka = nth l (i - 1) ∧ kb = nth l i))) by omega)⟩
            · have hil2 : i = l.length := by omega
              subst hil2
              obtain ⟨w1', f1'⟩ := hfin 0 hcm hu
              repeat' (first | (refine wpc_split _ (fun hc => ?_) (fun hc => ?_) <;> (try simp at hc)) | (refine ww_split _ (fun hc => ?_) (fun hc => ?_) <;> (try simp at hc)) | (refine wp_drawF (by kernel_rfl) ?_) | (refine wk_yldW _ ?_) | (refine owe ?_ (fun ho => ?_)) | (simp (disch := first | assumption | omega | (simp; done) | (simp; omega)) [A1, A2, A3, A4, A6, A7, A9, A19, A21, A22, Abs, hck, hw, hft, cW, cF, w1', f1', -getElem?_pos, List.getElem?_cons_zero, List.getElem?_cons_succ]))
      · by_cases hg0 : f.gs = []
        · have ag := agz hg0
          clear agz ag1
          by_cases hk0 : f.ks = []
          · have ak := akz hk0
            clear akz ak1
            refine outS_of_wp cfg (fn := Tryd.f5) Tryd.func5 rfl (by simp [Tryd.f5]) ?_
            simp (disch := first | assumption | omega | (simp; done) | (simp; omega)) [-getElem?_pos, List.getElem?_cons_zero, List.getElem?_cons_succ, Tryd.f5, hck, he, hw, hft, hlg, hcm]
            repeat' (first | (refine wpc_split _ (fun hc => ?_) (fun hc => ?_) <;> (try simp at hc)) | (refine ww_split _ (fun hc => ?_) (fun hc => ?_) <;> (try simp at hc)) | (refine wp_drawF (by kernel_rfl) ?_) | (refine wk_yldW _ ?_) | (refine owe ?_ (fun ho => ?_)) | (simp (disch := first | assumption | omega | (simp; done) | (simp; omega)) [hck, he, hw, hft, hlg, hcm, ag, ak, fg, fk, bumpT, append_R1, cR, cP, -getElem?_pos, List.getElem?_cons_zero, List.getElem?_cons_succ]))
          · have ak := ak1 hk0
            clear akz ak1
            refine outS_of_wp cfg (fn := Tryd.f5) Tryd.func5 rfl (by simp [Tryd.f5]) ?_
            simp (disch := first | assumption | omega | (simp; done) | (simp; omega)) [-getElem?_pos, List.getElem?_cons_zero, List.getElem?_cons_succ, Tryd.f5, hck, he, hw, hft, hlg, hcm]
            repeat' (first | (refine wpc_split _ (fun hc => ?_) (fun hc => ?_) <;> (try simp at hc)) | (refine ww_split _ (fun hc => ?_) (fun hc => ?_) <;> (try simp at hc)) | (refine wp_drawF (by kernel_rfl) ?_) | (refine wk_yldW _ ?_) | (refine owe ?_ (fun ho => ?_)) | (simp (disch := first | assumption | omega | (simp; done) | (simp; omega)) [hck, he, hw, hft, hlg, hcm, ag, ak, fg, fk, bumpT, append_R1, cR, cP, -getElem?_pos, List.getElem?_cons_zero, List.getElem?_cons_succ]))
        · have ag := ag1 hg0
          clear agz ag1
          by_cases hk0 : f.ks = []
          · have ak := akz hk0
            clear akz ak1
            refine outS_of_wp cfg (fn := Tryd.f5) Tryd.func5 rfl (by simp [Tryd.f5]) ?_
            simp (disch := first | assumption | omega | (simp; done) | (simp; omega)) [-getElem?_pos, List.getElem?_cons_zero, List.getElem?_cons_succ, Tryd.f5, hck, he, hw, hft, hlg, hcm]
            repeat' (first | (refine wpc_split _ (fun hc => ?_) (fun hc => ?_) <;> (try simp at hc)) | (refine ww_split _ (fun hc => ?_) (fun hc => ?_) <;> (try simp at hc)) | (refine wp_drawF (by kernel_rfl) ?_) | (refine wk_yldW _ ?_) | (refine owe ?_ (fun ho => ?_)) | (simp (disch := first | assumption | omega | (simp; done) | (simp; omega)) [hck, he, hw, hft, hlg, hcm, ag, ak, fg, fk, bumpT, append_R1, cR, cP, -getElem?_pos, List.getElem?_cons_zero, List.getElem?_cons_succ]))
          · have ak := ak1 hk0
            clear akz ak1
            refine outS_of_wp cfg (fn := Tryd.f5) Tryd.func5 rfl (by simp [Tryd.f5]) ?_
            simp (disch := first | assumption | omega | (simp; done) | (simp; omega)) [-getElem?_pos, List.getElem?_cons_zero, List.getElem?_cons_succ, Tryd.f5, hck, he, hw, hft, hlg, hcm]
            repeat' (first | (refine wpc_split _ (fun hc => ?_) (fun hc => ?_) <;> (try simp at hc)) | (refine ww_split _ (fun hc => ?_) (fun hc => ?_) <;> (try simp at hc)) | (refine wp_drawF (by kernel_rfl) ?_) | (refine wk_yldW _ ?_) | (refine owe ?_ (fun ho => ?_)) | (simp (disch := first | assumption | omega | (simp; done) | (simp; omega)) [hck, he, hw, hft, hlg, hcm, ag, ak, fg, fk, bumpT, append_R1, cR, cP, -getElem?_pos, List.getElem?_cons_zero, List.getElem?_cons_succ]))
    · skip
      refine outS_of_wp cfg (fn := Tryd.f5) Tryd.func5 rfl (by simp [Tryd.f5]) ?_
      simp (disch := first | assumption | omega | (simp; done) | (simp; omega)) [-getElem?_pos, List.getElem?_cons_zero, List.getElem?_cons_succ, Tryd.f5, hck, he]
      repeat' (first | (refine wpc_split _ (fun hc => ?_) (fun hc => ?_) <;> (try simp at hc)) | (refine ww_split _ (fun hc => ?_) (fun hc => ?_) <;> (try simp at hc)) | (refine wp_drawF (by kernel_rfl) ?_) | (refine wk_yldW _ ?_) | (refine owe ?_ (fun ho => ?_)) | (simp (disch := first | assumption | omega | (simp; done) | (simp; omega)) [hck, he, -getElem?_pos, List.getElem?_cons_zero, List.getElem?_cons_succ]))
  · skip
    refine outS_of_wp cfg (fn := Tryd.f5) Tryd.func5 rfl (by simp [Tryd.f5]) ?_
    simp (disch := first | assumption | omega | (simp; done) | (simp; omega)) [-getElem?_pos, List.getElem?_cons_zero, List.getElem?_cons_succ, Tryd.f5, hck]
    repeat' (first | (refine wpc_split _ (fun hc => ?_) (fun hc => ?_) <;> (try simp at hc)) | (refine ww_split _ (fun hc => ?_) (fun hc => ?_) <;> (try simp at hc)) | (refine wp_drawF (by kernel_rfl) ?_) | (refine wk_yldW _ ?_) | (refine owe ?_ (fun ho => ?_)) | (simp (disch := first | assumption | omega | (simp; done) | (simp; omega)) [hck, -getElem?_pos, List.getElem?_cons_zero, List.getElem?_cons_succ]))
@[simp] theorem S5 (f : Font) (s : List UInt8) (room lo hi wd ka kb kby : Int) (hs : f.gs.length < 1048577 ∧ f.ks.length < 1048577) (hl : s.length < 1099511627776) (q1 q2 : Fl) (hh : Heap) : Ci cfg (.func (.func 5) [] []) [.agg [R  q1 eG f.gs, .int .i64 f.other, R  q2 eK f.ks], .str s, .int .i64 room, .int .i64 lo, .int .i64 hi, .int .i64 wd, .int .i64 ka, .int .i64 kb, .int .i64 kby] hh = some (.ret (.bool true), hh) :=
  Ci_K cfg rfl rfl (by simp) (by simp) (C5 f s room lo hi wd ka kb kby hs hl)
end Go.Ab
