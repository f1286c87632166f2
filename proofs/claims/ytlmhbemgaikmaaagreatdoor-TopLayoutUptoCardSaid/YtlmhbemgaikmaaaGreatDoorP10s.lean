
import Derived.Test.YtlmhbemgaikmaaaGreatDoorGr19
import Derived.Test.YtlmhbemgaikmaaaGreatDoorGr20
set_option linter.unusedVariables false
set_option linter.unusedSimpArgs false
set_option linter.unusedSectionVars false
set_option linter.deprecated false
namespace Go.Ab
set_option maxRecDepth 100000
theorem ordF_perm (L : List Int) : ((List.range L.length).map (ordF L)).Perm (List.range L.length) := by
 refine (List.perm_ext_iff_of_nodup ?_ List.nodup_range).2 fun a => ?_
 ·unfold List.Nodup
  rw [List.pairwise_map]
  refine List.Pairwise.imp_of_mem ?_ (List.nodup_range (n := L.length))
  intro i j hi hj hne h
  rw [List.mem_range] at hi hj
  exact hne (ordF_inj hi hj h)
 ·simp only [List.mem_map, List.mem_range]
  constructor
  ·rintro ⟨i, hi, rfl⟩; exact ordF_lt hi
  ·intro ha; exact ⟨atF L a, atF_lt ha, ord_at ha⟩
theorem map_nth_range (l : List Int) : (List.range l.length).map (nth l) = l := by
 apply List.ext_getElem
 ·simp
 ·intro i h1 h2
  simp [nth_eq h2]
theorem shown_perm {l L : List Int} (h : L.length = l.length) : (shownL l L).Perm l := by
 have h1 : shownL l L = ((List.range L.length).map (ordF L)).map (nth l) := by
  unfold shownL rowF
  rw [List.map_map, h]; rfl
 rw [h1]
 have := (ordF_perm L).map (nth l)
 rw [h, map_nth_range] at this
 rw [h]; exact this
theorem shown_nth {l L : List Int} {i : Nat} (h : i < l.length) : nth (shownL l L) i = nth l (ordF L i) := nth_rowF (g := fun i => nth l (ordF L i)) h
theorem enc_perm {l m : List Int} (h : m.Perm l) : (encAll m).length = (encAll l).length := (List.Perm.flatMap_right encR h).length_eq
theorem all_perm {l m : List Int} (h : m.Perm l) (ha : l.all point = true) : m.all point = true := by
 rw [List.all_eq_true] at ha ⊢
 exact fun x hx => ha x (h.mem_iff.1 hx)
theorem show_right {s : List UInt8} (right : Bool) (h : (runesG s).2 = 0) (m : List Int) (hm : m = shownL (runesG s).1 (levS (runesG s).1 right).1) :
  showS s right = (encAll m, 0) ∧ runesG (encAll m) = (m, 0) ∧ m.Perm (runesG s).1 ∧ (encAll m).length = s.length ∧ m.length = (runesG s).1.length := by
 obtain ⟨k1, k2, k3, k4, k5⟩ := lev_ok right h
 obtain ⟨h1, h2⟩ := runesG_all h
 obtain ⟨h3, h4⟩ := runes_enc' h2
 have hp := shown_perm (l := (runesG s).1) (L := (levS (runesG s).1 right).1) k2
 rw [← hm] at hp
 have hl : (encAll m).length = s.length := by rw [enc_perm hp, h3]
 have ha := all_perm hp h4
 refine ⟨?_, ?_, hp, hl, hp.length_eq⟩
 ·unfold showS
  rw [if_pos h, ← hm]
  unfold joinG
  rw [if_pos ha, if_neg (by omega)]
 ·exact runesG_some (by omega) (runes_encAll ha)
end Go.Ab
