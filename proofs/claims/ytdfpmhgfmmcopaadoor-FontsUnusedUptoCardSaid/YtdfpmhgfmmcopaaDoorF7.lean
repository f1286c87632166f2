/- Layer 11 (fonts): the program's Fit. -/
import Derived.Test.YtdfpmhgfmmcopaaDoorF6
set_option linter.unusedVariables false
set_option linter.unusedSimpArgs false
set_option linter.unusedSectionVars false
set_option linter.deprecated false
namespace Go.Ab
open Go.Proofs
set_option maxRecDepth 100000
set_option maxHeartbeats 8000000
attribute [local simp] lookupV mapUpdV keyOk
theorem C15 (f : Font) (s : List UInt8) (room : Int) (hs : f.gs.length < 1099511627776 ∧ f.ks.length < 1099511627776) (hl : s.length < 1099511627776) : Kc cfg 15 [.agg [R fl0 eG f.gs, .int .i64 f.other, R fl0 eK f.ks], .str s, .int .i64 room] (.ret (.tuple [.int .i64 (fitS f s room).1, .int .i64 (fitS f s room).2.1, .int .i64 (fitS f s room).2.2])) := by
  by_cases hc0 : checkS f = 0
  · have hrF : runesF f s = runesG s := by unfold runesF; rw [if_neg (by simpa using hc0)]
    by_cases he : (runesG s).2 = 0
    · have hW : fitS f s room = ((fitTo f (runesG s).1 room (runesG s).1.length).1, (fitTo f (runesG s).1 room (runesG s).1.length).2, 0) := by unfold fitS; rw [if_neg (by simpa using hc0), if_neg (by simpa using he)]
      have hn := runesG_len' s
      rw [hW]
      generalize hlg : (runesG s).1 = l at *
      refine outS_of_wp cfg (fn := Tryd.f15) Tryd.func15 rfl (by simp [Tryd.f15]) ?_
      simp (disch := first | assumption | omega | (simp; done) | (simp; omega)) [-getElem?_pos, List.getElem?_cons_zero, List.getElem?_cons_succ, Tryd.f15, hrF, he, hlg]
      repeat' (first | (refine wpc_split _ (fun hc => ?_) (fun hc => ?_) <;> (try simp at hc)) | (refine ww_split _ (fun hc => ?_) (fun hc => ?_) <;> (try simp at hc)) | (refine wp_drawF (by kernel_rfl) ?_) | (refine wk_yldW _ ?_) | (refine owe ?_ (fun ho => ?_)) | (simp (disch := first | assumption | omega | (simp; done) | (simp; omega)) [hrF, he, hlg, Tryd.f22, Tryd.f38, -getElem?_pos, List.getElem?_cons_zero, List.getElem?_cons_succ]))
      have hkm := kMap_near hc0
      obtain ⟨hlen, hoth, hgl, hkl⟩ := checkS_ok hc0
      refine wp_loopE cfg rfl (fun f0 h0 m fr h => ∃ i : Nat, ∃ Z : List Blk, fr 0 = f0 0 ∧ fr 1 = f0 1 ∧ fr 2 = f0 2 ∧ fr 4 = f0 4 ∧ fr 14 = f0 14 ∧ fr 15 = f0 15 ∧ fr 16 = .int .i64 i ∧ (h.bs = (h0.bs.set 8 (.map (kMap f.ks i) i)) ++ Z) ∧ (i + m = f.ks.length)) (f.ks.length) _ _ ⟨0, [], rfl, rfl, rfl, rfl, rfl, rfl, by first | rfl | (simp; done) | (simp [R]; done) | simp [R], by simp [kMap], by first | rfl | (simp; done) | omega⟩ ?_
      rintro Am Af Ah ⟨i, Z, A0, A1, A2, A4, A14, A15, A16, hb, hm⟩ Aih
      try simp at A0 A1 A2 A4 A14 A15
      simp at hb
      by_cases hi : i < f.ks.length
      · have hfk : findK Tryd.prog 73 (.agg [.int .i64 (nth f.ks i).a, .int .i64 (nth f.ks i).b]) (kMap f.ks i) = some none := findK_none (fun j hj hx => by
          have := kAll_lt hkl i j hj hi
          omega)
        have hsu := kMap_succ f.ks i
        repeat' (first | (refine wpc_split _ (fun hc => ?_) (fun hc => ?_) <;> (try simp at hc)) | (refine ww_split _ (fun hc => ?_) (fun hc => ?_) <;> (try simp at hc)) | (refine wp_drawF (by kernel_rfl) ?_) | (refine wk_yldW _ ?_) | (refine owe ?_ (fun ho => ?_)) | (simp (disch := first | assumption | omega | (simp; done) | (simp; omega)) [A0, A1, A2, A4, A14, A15, A16, hb, eK, hfk, -getElem?_pos, List.getElem?_cons_zero, List.getElem?_cons_succ]))
        exact Aih (Am - 1) _ _ (by omega) ⟨i + 1, Z ++ [.cells (eK (nth f.ks i))], by simp [A0, A1, A2, A4, A14, A15, A16, hb, hsu, kEnt], by simp [A0, A1, A2, A4, A14, A15, A16, hb, hsu, kEnt], by simp [A0, A1, A2, A4, A14, A15, A16, hb, hsu, kEnt], by simp [A0, A1, A2, A4, A14, A15, A16, hb, hsu, kEnt], by simp [A0, A1, A2, A4, A14, A15, A16, hb, hsu, kEnt], by simp [A0, A1, A2, A4, A14, A15, A16, hb, hsu, kEnt], by simp [A0, A1, A2, A4, A14, A15, A16, hb, hsu, kEnt], by simp [hsu, kEnt, eK], by omega⟩
      · have hik : i = f.ks.length := by omega
        subst hik
        repeat' (first | (refine wp_drawF (by kernel_rfl) ?_) | (refine wk_yldW _ ?_) | (refine owe ?_ (fun ho => ?_)) | (simp (disch := first | assumption | omega | (simp; done) | (simp; omega)) [A0, A1, A2, A4, A14, A15, A16, hb, -getElem?_pos, List.getElem?_cons_zero, List.getElem?_cons_succ]))
        refine wpc_both (G := ?G) ?h ?h1 ?h2
        case h1 =>
          intro g
          repeat' (first | (refine wpc_split _ (fun hc => ?_) (fun hc => ?_) <;> (try simp at hc)) | (refine ww_split _ (fun hc => ?_) (fun hc => ?_) <;> (try simp at hc)) | (refine wp_drawF (by kernel_rfl) ?_) | (refine wk_yldW _ ?_) | (refine owe ?_ (fun ho => ?_)) | (simp (disch := first | assumption | omega | (simp; done) | (simp; omega)) [A0, A1, A2, A4, A14, A15, A16, hb, -getElem?_pos, List.getElem?_cons_zero, List.getElem?_cons_succ]))
          exact g
        case h2 =>
          intro g
          repeat' (first | (refine wpc_split _ (fun hc => ?_) (fun hc => ?_) <;> (try simp at hc)) | (refine ww_split _ (fun hc => ?_) (fun hc => ?_) <;> (try simp at hc)) | (refine wp_drawF (by kernel_rfl) ?_) | (refine wk_yldW _ ?_) | (refine owe ?_ (fun ho => ?_)) | (simp (disch := first | assumption | omega | (simp; done) | (simp; omega)) [A0, A1, A2, A4, A14, A15, A16, hb, -getElem?_pos, List.getElem?_cons_zero, List.getElem?_cons_succ]))
          exact g
        all_goals
          refine wp_loopE cfg rfl (fun f0 h0 m fr h => ∃ i : Nat, ∃ Y : List Blk, fr 0 = f0 0 ∧ fr 1 = f0 1 ∧ fr 2 = f0 2 ∧ fr 4 = f0 4 ∧ fr 32 = f0 32 ∧ fr 33 = f0 33 ∧ fr 34 = .int .i64 i ∧ fr 7 = .int .i64 (wTo f l i) ∧ (h.bs = (((h0.bs.take 9).set 2 (.cells [.int .i64 (fitTo f l room i).1])).set 3 (.cells [.int .i64 (fitTo f l room i).2])) ++ Y) ∧ (i + m = l.length)) (l.length) _ _ ⟨0, Z, rfl, rfl, rfl, rfl, rfl, rfl, by first | rfl | (simp; done) | (simp [R]; done) | simp [R], by simp [wTo, sumTo], by simp [fitTo], by first | rfl | (simp; done) | omega⟩ ?_
          rintro Bm Bf Bh ⟨i, Y, B0, B1, B2, B4, B32, B33, B34, B7, hb2, hm2⟩ Bih
          try simp [A0, A1, A2, A4, A14, A15, A16] at B0 B1 B2 B4 B32 B33
          simp at hb2
          have hwb := wTo_bound hc0 l i
          have hft : fitTo f l room (i + 1) = if wTo f l (i + 1) ≤ room then ((i : Int) + 1, wTo f l (i + 1)) else fitTo f l room i := rfl
          by_cases hi : i < l.length
          · have ho1 := oneS_bound hc0 (nth l i)
            have hn1 := nearS_bound hc0 (nth l (i - 1)) (nth l i)
            have hsu := wTo_succ f l i
            have hlst3 : ∀ (x : Blk) (A B : List Blk), (A ++ x :: B)[A.length]? = some x := fun x A B => by simp
            repeat' (first | (refine wpc_split _ (fun hc => ?_) (fun hc => ?_) <;> (try simp at hc)) | (refine ww_split _ (fun hc => ?_) (fun hc => ?_) <;> (try simp at hc)) | (refine wp_drawF (by kernel_rfl) ?_) | (refine wk_yldW _ ?_) | (refine owe ?_ (fun ho => ?_)) | (simp (disch := first | assumption | omega | (simp; done) | (simp; omega)) [B0, B1, B2, B4, B32, B33, B34, B7, hb2, eI, -I39, -getElem?_pos, List.getElem?_cons_zero, List.getElem?_cons_succ]))
            refine Wfirst f hc0 (nth l i) _ _ _ (by simp) (fun X n hnl hf1 hf2 => ?_)
            have hone := oneS_search hc0 hnl hf1 hf2
            have hpt : ∀ x : Blk, (Y ++ (x :: X))[Y.length]? = some x := fun x => by simp
            obtain ⟨o, hfo, hcs⟩ := hkm (nth l (i - 1)) (nth l i)
            have hadd : addS f l i = oneS f (nth l i) - (if 0 < i then nearS f (nth l (i - 1)) (nth l i) else 0) := rfl
            have hgo : (n < f.gs.length ∧ (nth f.gs n).lo ≤ nth l i) ∨ ¬ (n < f.gs.length ∧ (nth f.gs n).lo ≤ nth l i) := Classical.em _
            by_cases hz : i = 0
            · subst hz
              have hwz : wTo f l 0 = 0 := rfl
              have hsu2 : wTo f l 1 = oneS f (nth l 0) := by
                have : wTo f l (0 + 1) = _ := hsu
                rw [hadd] at this; simp [hwz] at this; exact this
              rcases hgo with hg | hg
              · rw [if_pos hg] at hone
                rw [hone] at hsu2 ho1
                rw [hsu2] at hft
                repeat' (first | (refine wpc_split _ (fun hc => ?_) (fun hc => ?_) <;> (try simp at hc)) | (refine ww_split _ (fun hc => ?_) (fun hc => ?_) <;> (try simp at hc)) | (refine wp_drawF (by kernel_rfl) ?_) | (refine wk_yldW _ ?_) | (refine owe ?_ (fun ho => ?_)) | (simp (disch := first | assumption | omega | (simp; done) | (simp; omega)) [B0, B1, B2, B4, B32, B33, B34, B7, eG, hpt, hg.1, hg.2, hwz, -getElem?_pos, List.getElem?_cons_zero, List.getElem?_cons_succ]))
                all_goals first
                  | (exact Bih (Bm - 1) _ _ (by omega) ⟨0 + 1, Y ++ (.cells [.int .i64 (nth l 0)] :: X), by simp [B0, B1, B2, B4, B32, B33, B34, B7, A0, A1, A2, A4, A14, A15, A16, hb2, hsu2, hwz, hft, hc], by simp [B0, B1, B2, B4, B32, B33, B34, B7, A0, A1, A2, A4, A14, A15, A16, hb2, hsu2, hwz, hft, hc], by simp [B0, B1, B2, B4, B32, B33, B34, B7, A0, A1, A2, A4, A14, A15, A16, hb2, hsu2, hwz, hft, hc], by simp [B0, B1, B2, B4, B32, B33, B34, B7, A0, A1, A2, A4, A14, A15, A16, hb2, hsu2, hwz, hft, hc], by simp [B0, B1, B2, B4, B32, B33, B34, B7, A0, A1, A2, A4, A14, A15, A16, hb2, hsu2, hwz, hft, hc], by simp [B0, B1, B2, B4, B32, B33, B34, B7, A0, A1, A2, A4, A14, A15, A16, hb2, hsu2, hwz, hft, hc], by simp [B0, B1, B2, B4, B32, B33, B34, B7, A0, A1, A2, A4, A14, A15, A16, hb2, hsu2, hwz, hft, hc], by simp [B0, B1, B2, B4, B32, B33, B34, B7, A0, A1, A2, A4, A14, A15, A16, hb2, hsu2, hwz, hft, hc], by simp [hsu2, hwz, hft, hc], by omega⟩)
                  | (exact Bih (Bm - 1) _ _ (by omega) ⟨0 + 1, Y ++ (.cells [.int .i64 (nth l 0)] :: X), by simp [B0, B1, B2, B4, B32, B33, B34, B7, A0, A1, A2, A4, A14, A15, A16, hb2, hsu2, hwz, hft, Int.not_le.2 hc], by simp [B0, B1, B2, B4, B32, B33, B34, B7, A0, A1, A2, A4, A14, A15, A16, hb2, hsu2, hwz, hft, Int.not_le.2 hc], by simp [B0, B1, B2, B4, B32, B33, B34, B7, A0, A1, A2, A4, A14, A15, A16, hb2, hsu2, hwz, hft, Int.not_le.2 hc], by simp [B0, B1, B2, B4, B32, B33, B34, B7, A0, A1, A2, A4, A14, A15, A16, hb2, hsu2, hwz, hft, Int.not_le.2 hc], by simp [B0, B1, B2, B4, B32, B33, B34, B7, A0, A1, A2, A4, A14, A15, A16, hb2, hsu2, hwz, hft, Int.not_le.2 hc], by simp [B0, B1, B2, B4, B32, B33, B34, B7, A0, A1, A2, A4, A14, A15, A16, hb2, hsu2, hwz, hft, Int.not_le.2 hc], by simp [B0, B1, B2, B4, B32, B33, B34, B7, A0, A1, A2, A4, A14, A15, A16, hb2, hsu2, hwz, hft, Int.not_le.2 hc], by simp [B0, B1, B2, B4, B32, B33, B34, B7, A0, A1, A2, A4, A14, A15, A16, hb2, hsu2, hwz, hft, Int.not_le.2 hc], by simp [hsu2, hwz, hft, Int.not_le.2 hc], by omega⟩)
              · rw [if_neg hg] at hone
                rw [hone] at hsu2 ho1
                rw [hsu2] at hft
                repeat' (first | (refine wpc_split _ (fun hc => ?_) (fun hc => ?_) <;> (try simp at hc)) | (refine ww_split _ (fun hc => ?_) (fun hc => ?_) <;> (try simp at hc)) | (refine wp_drawF (by kernel_rfl) ?_) | (refine wk_yldW _ ?_) | (refine owe ?_ (fun ho => ?_)) | (simp (disch := first | assumption | omega | (simp; done) | (simp; omega)) [B0, B1, B2, B4, B32, B33, B34, B7, eG, hpt, hwz, -getElem?_pos, List.getElem?_cons_zero, List.getElem?_cons_succ]))
                all_goals first
                  | (exfalso; omega)
                  | (exact Bih (Bm - 1) _ _ (by omega) ⟨0 + 1, Y ++ (.cells [.int .i64 (nth l 0)] :: X), by simp [B0, B1, B2, B4, B32, B33, B34, B7, A0, A1, A2, A4, A14, A15, A16, hb2, hsu2, hwz, hft, hc], by simp [B0, B1, B2, B4, B32, B33, B34, B7, A0, A1, A2, A4, A14, A15, A16, hb2, hsu2, hwz, hft, hc], by simp [B0, B1, B2, B4, B32, B33, B34, B7, A0, A1, A2, A4, A14, A15, A16, hb2, hsu2, hwz, hft, hc], by simp [B0, B1, B2, B4, B32, B33, B34, B7, A0, A1, A2, A4, A14, A15, A16, hb2, hsu2, hwz, hft, hc], by simp [B0, B1, B2, B4, B32, B33, B34, B7, A0, A1, A2, A4, A14, A15, A16, hb2, hsu2, hwz, hft, hc], by simp [B0, B1, B2, B4, B32, B33, B34, B7, A0, A1, A2, A4, A14, A15, A16, hb2, hsu2, hwz, hft, hc], by simp [B0, B1, B2, B4, B32, B33, B34, B7, A0, A1, A2, A4, A14, A15, A16, hb2, hsu2, hwz, hft, hc], by simp [B0, B1, B2, B4, B32, B33, B34, B7, A0, A1, A2, A4, A14, A15, A16, hb2, hsu2, hwz, hft, hc], by simp [hsu2, hwz, hft, hc], by omega⟩)
                  | (exact Bih (Bm - 1) _ _ (by omega) ⟨0 + 1, Y ++ (.cells [.int .i64 (nth l 0)] :: X), by simp [B0, B1, B2, B4, B32, B33, B34, B7, A0, A1, A2, A4, A14, A15, A16, hb2, hsu2, hwz, hft, Int.not_le.2 hc], by simp [B0, B1, B2, B4, B32, B33, B34, B7, A0, A1, A2, A4, A14, A15, A16, hb2, hsu2, hwz, hft, Int.not_le.2 hc], by simp [B0, B1, B2, B4, B32, B33, B34, B7, A0, A1, A2, A4, A14, A15, A16, hb2, hsu2, hwz, hft, Int.not_le.2 hc], by simp [B0, B1, B2, B4, B32, B33, B34, B7, A0, A1, A2, A4, A14, A15, A16, hb2, hsu2, hwz, hft, Int.not_le.2 hc], by simp [B0, B1, B2, B4, B32, B33, B34, B7, A0, A1, A2, A4, A14, A15, A16, hb2, hsu2, hwz, hft, Int.not_le.2 hc], by simp [B0, B1, B2, B4, B32, B33, B34, B7, A0, A1, A2, A4, A14, A15, A16, hb2, hsu2, hwz, hft, Int.not_le.2 hc], by simp [B0, B1, B2, B4, B32, B33, B34, B7, A0, A1, A2, A4, A14, A15, A16, hb2, hsu2, hwz, hft, Int.not_le.2 hc], by simp [B0, B1, B2, B4, B32, B33, B34, B7, A0, A1, A2, A4, A14, A15, A16, hb2, hsu2, hwz, hft, Int.not_le.2 hc], by simp [hsu2, hwz, hft, Int.not_le.2 hc], by omega⟩)
            · have h4 : (((i : Int) - 1).toNat) = i - 1 := by omega
              rw [if_pos (by omega)] at hadd
              rcases hgo with hg | hg
              · rw [if_pos hg] at hone
                rw [hone] at hadd ho1
                have hsu2 : wTo f l (i + 1) = wTo f l i + (nth f.gs n).width - nearS f (nth l (i - 1)) (nth l i) := by rw [hsu, hadd]; omega
                rcases hcs with ⟨hon, hn0⟩ | ⟨j, hon⟩
                · subst hon
                  rw [hn0] at hsu2
                  rw [hsu2] at hft
                  repeat' (first | (refine wpc_split _ (fun hc => ?_) (fun hc => ?_) <;> (try simp at hc)) | (refine ww_split _ (fun hc => ?_) (fun hc => ?_) <;> (try simp at hc)) | (refine wp_drawF (by kernel_rfl) ?_) | (refine wk_yldW _ ?_) | (refine owe ?_ (fun ho => ?_)) | (simp (disch := first | assumption | omega | (simp; done) | (simp; omega)) [B0, B1, B2, B4, B32, B33, B34, B7, eG, eI, hpt, hg.1, hg.2, h4, hfo, -getElem?_pos, List.getElem?_cons_zero, List.getElem?_cons_succ]))
                  all_goals first
                    | (exact Bih (Bm - 1) _ _ (by omega) ⟨i + 1, Y ++ (.cells [.int .i64 (nth l i)] :: X), by simp [B0, B1, B2, B4, B32, B33, B34, B7, A0, A1, A2, A4, A14, A15, A16, hb2, hsu2, hft, hc], by simp [B0, B1, B2, B4, B32, B33, B34, B7, A0, A1, A2, A4, A14, A15, A16, hb2, hsu2, hft, hc], by simp [B0, B1, B2, B4, B32, B33, B34, B7, A0, A1, A2, A4, A14, A15, A16, hb2, hsu2, hft, hc], by simp [B0, B1, B2, B4, B32, B33, B34, B7, A0, A1, A2, A4, A14, A15, A16, hb2, hsu2, hft, hc], by simp [B0, B1, B2, B4, B32, B33, B34, B7, A0, A1, A2, A4, A14, A15, A16, hb2, hsu2, hft, hc], by simp [B0, B1, B2, B4, B32, B33, B34, B7, A0, A1, A2, A4, A14, A15, A16, hb2, hsu2, hft, hc], by simp [B0, B1, B2, B4, B32, B33, B34, B7, A0, A1, A2, A4, A14, A15, A16, hb2, hsu2, hft, hc], by simp [B0, B1, B2, B4, B32, B33, B34, B7, A0, A1, A2, A4, A14, A15, A16, hb2, hsu2, hft, hc], by simp [hsu2, hft, hc], by omega⟩)
                    | (exact Bih (Bm - 1) _ _ (by omega) ⟨i + 1, Y ++ (.cells [.int .i64 (nth l i)] :: X), by simp [B0, B1, B2, B4, B32, B33, B34, B7, A0, A1, A2, A4, A14, A15, A16, hb2, hsu2, hft, Int.not_le.2 hc], by simp [B0, B1, B2, B4, B32, B33, B34, B7, A0, A1, A2, A4, A14, A15, A16, hb2, hsu2, hft, Int.not_le.2 hc], by simp [B0, B1, B2, B4, B32, B33, B34, B7, A0, A1, A2, A4, A14, A15, A16, hb2, hsu2, hft, Int.not_le.2 hc], by simp [B0, B1, B2, B4, B32, B33, B34, B7, A0, A1, A2, A4, A14, A15, A16, hb2, hsu2, hft, Int.not_le.2 hc], by simp [B0, B1, B2, B4, B32, B33, B34, B7, A0, A1, A2, A4, A14, A15, A16, hb2, hsu2, hft, Int.not_le.2 hc], by simp [B0, B1, B2, B4, B32, B33, B34, B7, A0, A1, A2, A4, A14, A15, A16, hb2, hsu2, hft, Int.not_le.2 hc], by simp [B0, B1, B2, B4, B32, B33, B34, B7, A0, A1, A2, A4, A14, A15, A16, hb2, hsu2, hft, Int.not_le.2 hc], by simp [B0, B1, B2, B4, B32, B33, B34, B7, A0, A1, A2, A4, A14, A15, A16, hb2, hsu2, hft, Int.not_le.2 hc], by simp [hsu2, hft, Int.not_le.2 hc], by omega⟩)
                · subst hon
                  rw [hsu2] at hft
                  repeat' (first | (refine wpc_split _ (fun hc => ?_) (fun hc => ?_) <;> (try simp at hc)) | (refine ww_split _ (fun hc => ?_) (fun hc => ?_) <;> (try simp at hc)) | (refine wp_drawF (by kernel_rfl) ?_) | (refine wk_yldW _ ?_) | (refine owe ?_ (fun ho => ?_)) | (simp (disch := first | assumption | omega | (simp; done) | (simp; omega)) [B0, B1, B2, B4, B32, B33, B34, B7, eG, eI, hpt, hg.1, hg.2, h4, hfo, -getElem?_pos, List.getElem?_cons_zero, List.getElem?_cons_succ]))
                  all_goals first
                    | (exact Bih (Bm - 1) _ _ (by omega) ⟨i + 1, Y ++ (.cells [.int .i64 (nth l i)] :: X), by simp [B0, B1, B2, B4, B32, B33, B34, B7, A0, A1, A2, A4, A14, A15, A16, hb2, hsu2, hft, hc], by simp [B0, B1, B2, B4, B32, B33, B34, B7, A0, A1, A2, A4, A14, A15, A16, hb2, hsu2, hft, hc], by simp [B0, B1, B2, B4, B32, B33, B34, B7, A0, A1, A2, A4, A14, A15, A16, hb2, hsu2, hft, hc], by simp [B0, B1, B2, B4, B32, B33, B34, B7, A0, A1, A2, A4, A14, A15, A16, hb2, hsu2, hft, hc], by simp [B0, B1, B2, B4, B32, B33, B34, B7, A0, A1, A2, A4, A14, A15, A16, hb2, hsu2, hft, hc], by simp [B0, B1, B2, B4, B32, B33, B34, B7, A0, A1, A2, A4, A14, A15, A16, hb2, hsu2, hft, hc], by simp [B0, B1, B2, B4, B32, B33, B34, B7, A0, A1, A2, A4, A14, A15, A16, hb2, hsu2, hft, hc], by simp [B0, B1, B2, B4, B32, B33, B34, B7, A0, A1, A2, A4, A14, A15, A16, hb2, hsu2, hft, hc], by simp [hsu2, hft, hc], by omega⟩)
                    | (exact Bih (Bm - 1) _ _ (by omega) ⟨i + 1, Y ++ (.cells [.int .i64 (nth l i)] :: X), by simp [B0, B1, B2, B4, B32, B33, B34, B7, A0, A1, A2, A4, A14, A15, A16, hb2, hsu2, hft, Int.not_le.2 hc], by simp [B0, B1, B2, B4, B32, B33, B34, B7, A0, A1, A2, A4, A14, A15, A16, hb2, hsu2, hft, Int.not_le.2 hc], by simp [B0, B1, B2, B4, B32, B33, B34, B7, A0, A1, A2, A4, A14, A15, A16, hb2, hsu2, hft, Int.not_le.2 hc], by simp [B0, B1, B2, B4, B32, B33, B34, B7, A0, A1, A2, A4, A14, A15, A16, hb2, hsu2, hft, Int.not_le.2 hc], by simp [B0, B1, B2, B4, B32, B33, B34, B7, A0, A1, A2, A4, A14, A15, A16, hb2, hsu2, hft, Int.not_le.2 hc], by simp [B0, B1, B2, B4, B32, B33, B34, B7, A0, A1, A2, A4, A14, A15, A16, hb2, hsu2, hft, Int.not_le.2 hc], by simp [B0, B1, B2, B4, B32, B33, B34, B7, A0, A1, A2, A4, A14, A15, A16, hb2, hsu2, hft, Int.not_le.2 hc], by simp [B0, B1, B2, B4, B32, B33, B34, B7, A0, A1, A2, A4, A14, A15, A16, hb2, hsu2, hft, Int.not_le.2 hc], by simp [hsu2, hft, Int.not_le.2 hc], by omega⟩)
              · rw [if_neg hg] at hone
                rw [hone] at hadd ho1
                have hsu2 : wTo f l (i + 1) = wTo f l i + f.other - nearS f (nth l (i - 1)) (nth l i) := by rw [hsu, hadd]; omega
                rcases hcs with ⟨hon, hn0⟩ | ⟨j, hon⟩
                · subst hon
                  rw [hn0] at hsu2
                  rw [hsu2] at hft
                  repeat' (first | (refine wpc_split _ (fun hc => ?_) (fun hc => ?_) <;> (try simp at hc)) | (refine ww_split _ (fun hc => ?_) (fun hc => ?_) <;> (try simp at hc)) | (refine wp_drawF (by kernel_rfl) ?_) | (refine wk_yldW _ ?_) | (refine owe ?_ (fun ho => ?_)) | (simp (disch := first | assumption | omega | (simp; done) | (simp; omega)) [B0, B1, B2, B4, B32, B33, B34, B7, eG, eI, hpt, h4, hfo, -getElem?_pos, List.getElem?_cons_zero, List.getElem?_cons_succ]))
                  all_goals first
                    | (exfalso; omega)
                    | (exact Bih (Bm - 1) _ _ (by omega) ⟨i + 1, Y ++ (.cells [.int .i64 (nth l i)] :: X), by simp [B0, B1, B2, B4, B32, B33, B34, B7, A0, A1, A2, A4, A14, A15, A16, hb2, hsu2, hft, hc], by simp [B0, B1, B2, B4, B32, B33, B34, B7, A0, A1, A2, A4, A14, A15, A16, hb2, hsu2, hft, hc], by simp [B0, B1, B2, B4, B32, B33, B34, B7, A0, A1, A2, A4, A14, A15, A16, hb2, hsu2, hft, hc], by simp [B0, B1, B2, B4, B32, B33, B34, B7, A0, A1, A2, A4, A14, A15, A16, hb2, hsu2, hft, hc], by simp [B0, B1, B2, B4, B32, B33, B34, B7, A0, A1, A2, A4, A14, A15, A16, hb2, hsu2, hft, hc], by simp [B0, B1, B2, B4, B32, B33, B34, B7, A0, A1, A2, A4, A14, A15, A16, hb2, hsu2, hft, hc], by simp [B0, B1, B2, B4, B32, B33, B34, B7, A0, A1, A2, A4, A14, A15, A16, hb2, hsu2, hft, hc], by simp [B0, B1, B2, B4, B32, B33, B34, B7, A0, A1, A2, A4, A14, A15, A16, hb2, hsu2, hft, hc], by simp [hsu2, hft, hc], by omega⟩)
                    | (exact Bih (Bm - 1) _ _ (by omega) ⟨i + 1, Y ++ (.cells [.int .i64 (nth l i)] :: X), by simp [B0, B1, B2, B4, B32, B33, B34, B7, A0, A1, A2, A4, A14, A15, A16, hb2, hsu2, hft, Int.not_le.2 hc], by simp [B0, B1, B2, B4, B32, B33, B34, B7, A0, A1, A2, A4, A14, A15, A16, hb2, hsu2, hft, Int.not_le.2 hc], by simp [B0, B1, B2, B4, B32, B33, B34, B7, A0, A1, A2, A4, A14, A15, A16, hb2, hsu2, hft, Int.not_le.2 hc], by simp [B0, B1, B2, B4, B32, B33, B34, B7, A0, A1, A2, A4, A14, A15, A16, hb2, hsu2, hft, Int.not_le.2 hc], by simp [B0, B1, B2, B4, B32, B33, B34, B7, A0, A1, A2, A4, A14, A15, A16, hb2, hsu2, hft, Int.not_le.2 hc], by simp [B0, B1, B2, B4, B32, B33, B34, B7, A0, A1, A2, A4, A14, A15, A16, hb2, hsu2, hft, Int.not_le.2 hc], by simp [B0, B1, B2, B4, B32, B33, B34, B7, A0, A1, A2, A4, A14, A15, A16, hb2, hsu2, hft, Int.not_le.2 hc], by simp [B0, B1, B2, B4, B32, B33, B34, B7, A0, A1, A2, A4, A14, A15, A16, hb2, hsu2, hft, Int.not_le.2 hc], by simp [hsu2, hft, Int.not_le.2 hc], by omega⟩)
                · subst hon
                  rw [hsu2] at hft
                  repeat' (first | (refine wpc_split _ (fun hc => ?_) (fun hc => ?_) <;> (try simp at hc)) | (refine ww_split _ (fun hc => ?_) (fun hc => ?_) <;> (try simp at hc)) | (refine wp_drawF (by kernel_rfl) ?_) | (refine wk_yldW _ ?_) | (refine owe ?_ (fun ho => ?_)) | (simp (disch := first | assumption | omega | (simp; done) | (simp; omega)) [B0, B1, B2, B4, B32, B33, B34, B7, eG, eI, hpt, h4, hfo, -getElem?_pos, List.getElem?_cons_zero, List.getElem?_cons_succ]))
                  all_goals first
                    | (exfalso; omega)
                    | (exact Bih (Bm - 1) _ _ (by omega) ⟨i + 1, Y ++ (.cells [.int .i64 (nth l i)] :: X), by simp [B0, B1, B2, B4, B32, B33, B34, B7, A0, A1, A2, A4, A14, A15, A16, hb2, hsu2, hft, hc], by simp [B0, B1, B2, B4, B32, B33, B34, B7, A0, A1, A2, A4, A14, A15, A16, hb2, hsu2, hft, hc], by simp [B0, B1, B2, B4, B32, B33, B34, B7, A0, A1, A2, A4, A14, A15, A16, hb2, hsu2, hft, hc], by simp [B0, B1, B2, B4, B32, B33, B34, B7, A0, A1, A2, A4, A14, A15, A16, hb2, hsu2, hft, hc], by simp [B0, B1, B2, B4, B32, B33, B34, B7, A0, A1, A2, A4, A14, A15, A16, hb2, hsu2, hft, hc], by simp [B0, B1, B2, B4, B32, B33, B34, B7, A0, A1, A2, A4, A14, A15, A16, hb2, hsu2, hft, hc], by simp [B0, B1, B2, B4, B32, B33, B34, B7, A0, A1, A2, A4, A14, A15, A16, hb2, hsu2, hft, hc], by simp [B0, B1, B2, B4, B32, B33, B34, B7, A0, A1, A2, A4, A14, A15, A16, hb2, hsu2, hft, hc], by simp [hsu2, hft, hc], by omega⟩)
                    | (exact Bih (Bm - 1) _ _ (by omega) ⟨i + 1, Y ++ (.cells [.int .i64 (nth l i)] :: X), by simp [B0, B1, B2, B4, B32, B33, B34, B7, A0, A1, A2, A4, A14, A15, A16, hb2, hsu2, hft, Int.not_le.2 hc], by simp [B0, B1, B2, B4, B32, B33, B34, B7, A0, A1, A2, A4, A14, A15, A16, hb2, hsu2, hft, Int.not_le.2 hc], by simp [B0, B1, B2, B4, B32, B33, B34, B7, A0, A1, A2, A4, A14, A15, A16, hb2, hsu2, hft, Int.not_le.2 hc], by simp [B0, B1, B2, B4, B32, B33, B34, B7, A0, A1, A2, A4, A14, A15, A16, hb2, hsu2, hft, Int.not_le.2 hc], by simp [B0, B1, B2, B4, B32, B33, B34, B7, A0, A1, A2, A4, A14, A15, A16, hb2, hsu2, hft, Int.not_le.2 hc], by simp [B0, B1, B2, B4, B32, B33, B34, B7, A0, A1, A2, A4, A14, A15, A16, hb2, hsu2, hft, Int.not_le.2 hc], by simp [B0, B1, B2, B4, B32, B33, B34, B7, A0, A1, A2, A4, A14, A15, A16, hb2, hsu2, hft, Int.not_le.2 hc], by simp [B0, B1, B2, B4, B32, B33, B34, B7, A0, A1, A2, A4, A14, A15, A16, hb2, hsu2, hft, Int.not_le.2 hc], by simp [hsu2, hft, Int.not_le.2 hc], by omega⟩)
          · have hil : i = l.length := by omega
            subst hil
            repeat' (first | (refine wpc_split _ (fun hc => ?_) (fun hc => ?_) <;> (try simp at hc)) | (refine ww_split _ (fun hc => ?_) (fun hc => ?_) <;> (try simp at hc)) | (refine wp_drawT _ (by kernel_rfl) ?_) | (refine wk_yldW _ ?_) | (refine owe ?_ (fun ho => ?_)) | (simp (disch := first | assumption | omega | (simp; done) | (simp; omega)) [B0, B1, B2, B4, B32, B33, B34, B7, hb2, -getElem?_pos, List.getElem?_cons_zero, List.getElem?_cons_succ]))
    · have hW : fitS f s room = (0, 0, (runesG s).2) := by unfold fitS; rw [if_neg (by simpa using hc0), if_pos he]
      rw [hW]
      refine outS_of_wp cfg (fn := Tryd.f15) Tryd.func15 rfl (by simp [Tryd.f15]) ?_
      simp (disch := first | assumption | omega | (simp; done) | (simp; omega)) [-getElem?_pos, List.getElem?_cons_zero, List.getElem?_cons_succ, Tryd.f15, hrF, he]
      repeat' (first | (refine wpc_split _ (fun hc => ?_) (fun hc => ?_) <;> (try simp at hc)) | (refine ww_split _ (fun hc => ?_) (fun hc => ?_) <;> (try simp at hc)) | (refine wp_drawF (by kernel_rfl) ?_) | (refine wk_yldW _ ?_) | (refine owe ?_ (fun ho => ?_)) | (simp (disch := first | assumption | omega | (simp; done) | (simp; omega)) [hrF, he, -getElem?_pos, List.getElem?_cons_zero, List.getElem?_cons_succ]))
  · have hrF : runesF f s = ([], checkS f) := by unfold runesF; rw [if_pos hc0]
    have hW : fitS f s room = (0, 0, checkS f) := by unfold fitS; rw [if_pos hc0]
    rw [hW]
    refine outS_of_wp cfg (fn := Tryd.f15) Tryd.func15 rfl (by simp [Tryd.f15]) ?_
    simp (disch := first | assumption | omega | (simp; done) | (simp; omega)) [-getElem?_pos, List.getElem?_cons_zero, List.getElem?_cons_succ, Tryd.f15, hrF, hc0]
    repeat' (first | (refine wpc_split _ (fun hc => ?_) (fun hc => ?_) <;> (try simp at hc)) | (refine ww_split _ (fun hc => ?_) (fun hc => ?_) <;> (try simp at hc)) | (refine wp_drawF (by kernel_rfl) ?_) | (refine wk_yldW _ ?_) | (refine owe ?_ (fun ho => ?_)) | (simp (disch := first | assumption | omega | (simp; done) | (simp; omega)) [hrF, hc0, -getElem?_pos, List.getElem?_cons_zero, List.getElem?_cons_succ]))
@[simp] theorem S15 (f : Font) (s : List UInt8) (room : Int) (hs : f.gs.length < 1099511627776 ∧ f.ks.length < 1099511627776) (hl : s.length < 1099511627776) (q1 q2 : Fl) (hh : Heap) : Ci cfg (.func (.func 15) [] []) [.agg [R  q1 eG f.gs, .int .i64 f.other, R  q2 eK f.ks], .str s, .int .i64 room] hh = some (.ret (.tuple [.int .i64 (fitS f s room).1, .int .i64 (fitS f s room).2.1, .int .i64 (fitS f s room).2.2]), hh) :=
  Ci_K cfg rfl rfl (by simp) (by simp) (C15 f s room hs hl)
end Go.Ab
