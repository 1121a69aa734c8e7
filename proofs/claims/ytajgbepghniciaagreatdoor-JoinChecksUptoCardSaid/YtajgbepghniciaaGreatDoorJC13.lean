/- Lemmas and contracts of functions on the way to the law's card (part 13 of 17). -/
import Derived.Test.YtajgbepghniciaaGreatDoorJC12
import Derived.Laws.StructEq
namespace Go.Proofs.YtajgbepghniciaaGreatDoor
open Go.RowKit V
set_option maxRecDepth 100000

theorem lowS_same (s : ByteArray) : seq (lowS s) s = true ↔ ∀ i, i < s.size → ¬ (65 ≤ (gb s i).toNat ∧ (gb s i).toNat ≤ 90) := by
  rw [seq_iff]
  constructor
  · intro h i hi hc
    have e := congrArg (fun b : ByteArray => b.data.toList[i]?) h
    have hi' : i < s.data.toList.length := by simpa using hi
    simp only [lowS, List.getElem?_map] at e
    rw [List.getElem?_eq_getElem hi'] at e
    have hg : s.data.toList[i] = gb s i := by rw [gb, List.getD_eq_getElem?_getD, List.getElem?_eq_getElem hi', Option.getD_some]
    rw [hg] at e
    have e := Option.some.inj e
    have := lowB_add (gb s i) hc
    rw [e] at this
    omega
  · intro h
    have e : s.data.toList.map lowB = s.data.toList := by
      apply List.ext_getElem (by simp)
      intro i h1 h2
      rw [List.getElem_map]
      have hg : s.data.toList[i] = gb s i := by rw [gb, List.getD_eq_getElem?_getD, List.getElem?_eq_getElem h2, Option.getD_some]
      rw [hg]
      exact lowB_no _ (h i (by simpa using h2))
    unfold lowS
    rw [e]
theorem refLiteral_any (t : TM) (ht : TermOk t) (w : World) : Gv Tryz.prog 155 [termV t] w fun v w' => v = .int .i64 (litE t) ∧ Ext w w' := by
  obtain ⟨h1, h2, h3, h4⟩ := ht
  refine gv (by kernel_rfl) Tryz.func155 rfl Tryz.ntmps155 rfl ?_; conv => whnf
  refine NewV.mem (Mem.nil w) ?_
  intro b w1 hm
  (conv => whnf)
  (repeat' (first
      | (refine Obl.mk ⟨by omega, by omega⟩ ?_; conv => whnf)
      | (refine Obl.mk ⟨by omega, by omega, ⟨by omega, by omega⟩⟩ ?_; conv => whnf)
      | ((with_reducible refine Tst.tt ?_); conv => whnf)
      | ((with_reducible refine Tst.ff ?_); conv => whnf)
      | ((with_reducible refine Tst.dec (fun _ => ?_) (fun _ => ?_)) <;> first | (exfalso; omega) | (conv => whnf))
      | ((with_reducible refine Tst.not ?_))
      | (refine Wit.conv ⟨by omega, by omega⟩ ?_; conv => whnf)
      | ((with_reducible refine IdxV.nat (by omega) ?_); conv => whnf)
      | ((with_reducible refine SameW.mk rfl ?_); conv => whnf)
      | (refine LoadV.mem (i := 0) (by assumption) rfl rfl ?_; conv => whnf)
      | (refine LoadV.mem (i := 1) (by assumption) rfl rfl ?_; conv => whnf)
      | (refine LoadV.mem (i := 2) (by assumption) rfl rfl ?_; conv => whnf)
      | ((with_reducible refine Tst.beqT ?_))
      | ((with_reducible refine Tst.beqF ?_))
      | (refine Tst.yes rfl ?_; conv => whnf)
      | (refine Tst.no rfl ?_; conv => whnf)))
  · exact ⟨by rw [litE, if_pos (show 65536 < t.text.size by omega)]; rfl, hm.ext⟩
  · have n1 : ¬ 65536 < t.text.size := by omega
    refine CallV.of (refCheck_any t.text (by omega) w1) ?_
    rintro v w2 ⟨⟨i, rfl, hi, hi1, hi2⟩, he2⟩
    have hm := hm.call he2
    (conv => whnf)
    (repeat' (first
      | (refine Obl.mk ⟨by omega, by omega⟩ ?_; conv => whnf)
      | (refine Obl.mk ⟨by omega, by omega, ⟨by omega, by omega⟩⟩ ?_; conv => whnf)
      | ((with_reducible refine Tst.tt ?_); conv => whnf)
      | ((with_reducible refine Tst.ff ?_); conv => whnf)
      | ((with_reducible refine Tst.dec (fun _ => ?_) (fun _ => ?_)) <;> first | (exfalso; omega) | (conv => whnf))
      | ((with_reducible refine Tst.not ?_))
      | (refine Wit.conv ⟨by omega, by omega⟩ ?_; conv => whnf)
      | ((with_reducible refine IdxV.nat (by omega) ?_); conv => whnf)
      | ((with_reducible refine SameW.mk rfl ?_); conv => whnf)
      | (refine LoadV.mem (i := 0) (by assumption) rfl rfl ?_; conv => whnf)
      | (refine LoadV.mem (i := 1) (by assumption) rfl rfl ?_; conv => whnf)
      | (refine LoadV.mem (i := 2) (by assumption) rfl rfl ?_; conv => whnf)
      | ((with_reducible refine Tst.beqT ?_))
      | ((with_reducible refine Tst.beqF ?_))
      | (refine Tst.yes rfl ?_; conv => whnf)
      | (refine Tst.no rfl ?_; conv => whnf)))
    · have hs : scal t.text.data.toList = none := Classical.byContradiction fun h => by have := hi1 h; omega
      exact ⟨by rw [litE, if_neg n1, if_pos hs]; rfl, hm.ext⟩
    · have n2 : ¬ scal t.text.data.toList = none := fun h => by have := hi2 h; omega
      refine CallV.of (refIriCheck_any t.type (by omega) w2) ?_
      rintro v w3 ⟨rfl, he3⟩
      have hm := hm.call he3
      have eL : litE t = if iriE t.type ≠ 0 then iriE t.type else if seq t.lang ⟨#[]⟩ = false ∧ 65536 < t.lang.size then 2
          else if seq t.lang ⟨#[]⟩ = false ∧ (tagE (partsS t.lang) ≠ 0 ∨ seq (lowS t.lang) t.lang = false) then 61 else if (!seq t.lang ⟨#[]⟩) ≠ seq t.type tagged then 71 else 0 := by rw [litE, if_neg n1, if_neg n2]
      rw [eL]
      (conv => whnf)
      (repeat' (first
      | (refine Obl.mk ⟨by omega, by omega⟩ ?_; conv => whnf)
      | (refine Obl.mk ⟨by omega, by omega, ⟨by omega, by omega⟩⟩ ?_; conv => whnf)
      | ((with_reducible refine Tst.tt ?_); conv => whnf)
      | ((with_reducible refine Tst.ff ?_); conv => whnf)
      | ((with_reducible refine Tst.dec (fun _ => ?_) (fun _ => ?_)) <;> first | (exfalso; omega) | (conv => whnf))
      | ((with_reducible refine Tst.not ?_))
      | (refine Wit.conv ⟨by omega, by omega⟩ ?_; conv => whnf)
      | ((with_reducible refine IdxV.nat (by omega) ?_); conv => whnf)
      | ((with_reducible refine SameW.mk rfl ?_); conv => whnf)
      | (refine LoadV.mem (i := 0) (by assumption) rfl rfl ?_; conv => whnf)
      | (refine LoadV.mem (i := 1) (by assumption) rfl rfl ?_; conv => whnf)
      | (refine LoadV.mem (i := 2) (by assumption) rfl rfl ?_; conv => whnf)
      | ((with_reducible refine Tst.beqT ?_))
      | ((with_reducible refine Tst.beqF ?_))
      | (refine Tst.yes rfl ?_; conv => whnf)
      | (refine Tst.no rfl ?_; conv => whnf)))
      · exact ⟨by rw [if_pos (by omega)], hm.ext⟩
      · rw [if_neg (by omega)]
        cases hl : seq t.lang ⟨#[]⟩
        · (conv => whnf)
          (repeat' (first
      | (refine Obl.mk ⟨by omega, by omega⟩ ?_; conv => whnf)
      | (refine Obl.mk ⟨by omega, by omega, ⟨by omega, by omega⟩⟩ ?_; conv => whnf)
      | ((with_reducible refine Tst.tt ?_); conv => whnf)
      | ((with_reducible refine Tst.ff ?_); conv => whnf)
      | ((with_reducible refine Tst.dec (fun _ => ?_) (fun _ => ?_)) <;> first | (exfalso; omega) | (conv => whnf))
      | ((with_reducible refine Tst.not ?_))
      | (refine Wit.conv ⟨by omega, by omega⟩ ?_; conv => whnf)
      | ((with_reducible refine IdxV.nat (by omega) ?_); conv => whnf)
      | ((with_reducible refine SameW.mk rfl ?_); conv => whnf)
      | (refine LoadV.mem (i := 0) (by assumption) rfl rfl ?_; conv => whnf)
      | (refine LoadV.mem (i := 1) (by assumption) rfl rfl ?_; conv => whnf)
      | (refine LoadV.mem (i := 2) (by assumption) rfl rfl ?_; conv => whnf)
      | ((with_reducible refine Tst.beqT ?_))
      | ((with_reducible refine Tst.beqF ?_))
      | (refine Tst.yes rfl ?_; conv => whnf)
      | (refine Tst.no rfl ?_; conv => whnf)))
          (repeat' (first
      | (refine Obl.mk ⟨by omega, by omega⟩ ?_; conv => whnf)
      | (refine Obl.mk ⟨by omega, by omega, ⟨by omega, by omega⟩⟩ ?_; conv => whnf)
      | ((with_reducible refine Tst.tt ?_); conv => whnf)
      | ((with_reducible refine Tst.ff ?_); conv => whnf)
      | ((with_reducible refine Tst.dec (fun _ => ?_) (fun _ => ?_)) <;> first | (exfalso; omega) | (conv => whnf))
      | ((with_reducible refine Tst.not ?_))
      | (refine Wit.conv ⟨by omega, by omega⟩ ?_; conv => whnf)
      | ((with_reducible refine IdxV.nat (by omega) ?_); conv => whnf)
      | ((with_reducible refine SameW.mk rfl ?_); conv => whnf)
      | (refine LoadV.mem (i := 0) (by assumption) rfl rfl ?_; conv => whnf)
      | (refine LoadV.mem (i := 1) (by assumption) rfl rfl ?_; conv => whnf)
      | (refine LoadV.mem (i := 2) (by assumption) rfl rfl ?_; conv => whnf)
      | ((with_reducible refine Tst.beqT ?_))
      | ((with_reducible refine Tst.beqF ?_))
      | (refine Tst.yes rfl ?_; conv => whnf)
      | (refine Tst.no rfl ?_; conv => whnf)))
          · exact ⟨by rw [if_pos ⟨rfl, by omega⟩]; rfl, hm.ext⟩
          · rw [if_neg (show ¬ (false = false ∧ 65536 < t.lang.size) by omega)]
            refine CallV.of (refTag_any t.lang (by omega) w3) ?_
            rintro v w4 ⟨⟨c0, c1, c2, c3, c4, c5, c6, hc, rfl⟩, he4⟩
            have hm4 := hm.call he4
            obtain ⟨E, hE⟩ : ∃ E, E = tagE (partsS t.lang) := ⟨_, rfl⟩
            have hE2 := tagE_cases (partsS t.lang)
            rw [← hE] at hE2 ⊢
            (conv => whnf)
            rcases hE2 with rfl | rfl
            · (repeat' (first
      | (refine Obl.mk ⟨by omega, by omega⟩ ?_; conv => whnf)
      | (refine Obl.mk ⟨by omega, by omega, ⟨by omega, by omega⟩⟩ ?_; conv => whnf)
      | ((with_reducible refine Tst.tt ?_); conv => whnf)
      | ((with_reducible refine Tst.ff ?_); conv => whnf)
      | ((with_reducible refine Tst.dec (fun _ => ?_) (fun _ => ?_)) <;> first | (exfalso; omega) | (conv => whnf))
      | ((with_reducible refine Tst.not ?_))
      | (refine Wit.conv ⟨by omega, by omega⟩ ?_; conv => whnf)
      | ((with_reducible refine IdxV.nat (by omega) ?_); conv => whnf)
      | ((with_reducible refine SameW.mk rfl ?_); conv => whnf)
      | (refine LoadV.mem (i := 0) (by assumption) rfl rfl ?_; conv => whnf)
      | (refine LoadV.mem (i := 1) (by assumption) rfl rfl ?_; conv => whnf)
      | (refine LoadV.mem (i := 2) (by assumption) rfl rfl ?_; conv => whnf)
      | ((with_reducible refine Tst.beqT ?_))
      | ((with_reducible refine Tst.beqF ?_))
      | (refine Tst.yes rfl ?_; conv => whnf)
      | (refine Tst.no rfl ?_; conv => whnf)))
              have lg : ∀ w5, Ext w4 w5 → w5.cell? ⟨b, 3, none⟩ = some (.string t.lang) := fun w5 he5 => by rw [cell_heap ((hm4.call he5).get (List.mem_of_getElem? (i := 0) rfl))]; rfl
              refine loopV (fun i : Nat => [(1, .pointer (some ⟨b, 0, none⟩)), (4, .int .i64 i)])
                (fun i w5 => Ext w4 w5 ∧ i ≤ t.lang.size ∧ ∀ j, j < i → ¬ (65 ≤ (gb t.lang j).toNat ∧ (gb t.lang j).toNat ≤ 90))
                (fun i => t.lang.size - i) 0 ⟨rfl, rfl, trivial⟩ ⟨Ext.refl _, by omega, fun j h0 => by omega⟩ ?_
              rintro i w5 ρ' ⟨he5, hi, hj⟩
              have hm5 := hm4.call he5
              (conv => whnf)
              refine LoadV.mem hm5 (i := 0) rfl rfl ?_
              (conv => whnf)
              (repeat' (first
      | (refine Obl.mk ⟨by omega, by omega⟩ ?_; conv => whnf)
      | (refine Obl.mk ⟨by omega, by omega, ⟨by omega, by omega⟩⟩ ?_; conv => whnf)
      | ((with_reducible refine Tst.tt ?_); conv => whnf)
      | ((with_reducible refine Tst.ff ?_); conv => whnf)
      | ((with_reducible refine Tst.dec (fun _ => ?_) (fun _ => ?_)) <;> first | (exfalso; omega) | (conv => whnf))
      | ((with_reducible refine Tst.not ?_))
      | (refine Wit.conv ⟨by omega, by omega⟩ ?_; conv => whnf)
      | ((with_reducible refine IdxV.nat (by omega) ?_); conv => whnf)
      | ((with_reducible refine SameW.mk rfl ?_); conv => whnf)
      | (refine LoadV.mem (i := 0) (by assumption) rfl rfl ?_; conv => whnf)
      | (refine LoadV.mem (i := 1) (by assumption) rfl rfl ?_; conv => whnf)
      | (refine LoadV.mem (i := 2) (by assumption) rfl rfl ?_; conv => whnf)
      | ((with_reducible refine Tst.beqT ?_))
      | ((with_reducible refine Tst.beqF ?_))
      | (refine Tst.yes rfl ?_; conv => whnf)
      | (refine Tst.no rfl ?_; conv => whnf)))
              · have hlow : seq (lowS t.lang) t.lang = false := Bool.eq_false_iff.2 fun h => lowS_same t.lang |>.1 h i (by omega) (by omega)
                exact ⟨by rw [if_pos ⟨rfl, .inr hlow⟩]; rfl, hm5.ext⟩
              · refine ⟨i + 1, ⟨rfl, rfl, trivial⟩, ⟨he5, by omega, fun j hji => ?_⟩, by omega⟩
                by_cases e : j = i
                · subst e; omega
                · exact hj j (by omega)
              · refine ⟨i + 1, ⟨rfl, rfl, trivial⟩, ⟨he5, by omega, fun j hji => ?_⟩, by omega⟩
                by_cases e : j = i
                · subst e; omega
                · exact hj j (by omega)
              · have hlow : seq (lowS t.lang) t.lang = true := lowS_same t.lang |>.2 fun j hj' => hj j (by omega)
                rw [if_neg (by rw [hlow]; simp)]
                show Tst ((!seq t.lang ⟨#[]⟩) == seq t.type tagged) _ _
                rw [hl]
                cases ht : seq t.type tagged
                · (conv => whnf)
                  (repeat' (first
      | (refine Obl.mk ⟨by omega, by omega⟩ ?_; conv => whnf)
      | (refine Obl.mk ⟨by omega, by omega, ⟨by omega, by omega⟩⟩ ?_; conv => whnf)
      | ((with_reducible refine Tst.tt ?_); conv => whnf)
      | ((with_reducible refine Tst.ff ?_); conv => whnf)
      | ((with_reducible refine Tst.dec (fun _ => ?_) (fun _ => ?_)) <;> first | (exfalso; omega) | (conv => whnf))
      | ((with_reducible refine Tst.not ?_))
      | (refine Wit.conv ⟨by omega, by omega⟩ ?_; conv => whnf)
      | ((with_reducible refine IdxV.nat (by omega) ?_); conv => whnf)
      | ((with_reducible refine SameW.mk rfl ?_); conv => whnf)
      | (refine LoadV.mem (i := 0) (by assumption) rfl rfl ?_; conv => whnf)
      | (refine LoadV.mem (i := 1) (by assumption) rfl rfl ?_; conv => whnf)
      | (refine LoadV.mem (i := 2) (by assumption) rfl rfl ?_; conv => whnf)
      | ((with_reducible refine Tst.beqT ?_))
      | ((with_reducible refine Tst.beqF ?_))
      | (refine Tst.yes rfl ?_; conv => whnf)
      | (refine Tst.no rfl ?_; conv => whnf)))
                  exact ⟨rfl, hm5.ext⟩
                · (conv => whnf)
                  (repeat' (first
      | (refine Obl.mk ⟨by omega, by omega⟩ ?_; conv => whnf)
      | (refine Obl.mk ⟨by omega, by omega, ⟨by omega, by omega⟩⟩ ?_; conv => whnf)
      | ((with_reducible refine Tst.tt ?_); conv => whnf)
      | ((with_reducible refine Tst.ff ?_); conv => whnf)
      | ((with_reducible refine Tst.dec (fun _ => ?_) (fun _ => ?_)) <;> first | (exfalso; omega) | (conv => whnf))
      | ((with_reducible refine Tst.not ?_))
      | (refine Wit.conv ⟨by omega, by omega⟩ ?_; conv => whnf)
      | ((with_reducible refine IdxV.nat (by omega) ?_); conv => whnf)
      | ((with_reducible refine SameW.mk rfl ?_); conv => whnf)
      | (refine LoadV.mem (i := 0) (by assumption) rfl rfl ?_; conv => whnf)
      | (refine LoadV.mem (i := 1) (by assumption) rfl rfl ?_; conv => whnf)
      | (refine LoadV.mem (i := 2) (by assumption) rfl rfl ?_; conv => whnf)
      | ((with_reducible refine Tst.beqT ?_))
      | ((with_reducible refine Tst.beqF ?_))
      | (refine Tst.yes rfl ?_; conv => whnf)
      | (refine Tst.no rfl ?_; conv => whnf)))
                  exact ⟨rfl, hm5.ext⟩
            · (conv => whnf)
              (repeat' (first
      | (refine Obl.mk ⟨by omega, by omega⟩ ?_; conv => whnf)
      | (refine Obl.mk ⟨by omega, by omega, ⟨by omega, by omega⟩⟩ ?_; conv => whnf)
      | ((with_reducible refine Tst.tt ?_); conv => whnf)
      | ((with_reducible refine Tst.ff ?_); conv => whnf)
      | ((with_reducible refine Tst.dec (fun _ => ?_) (fun _ => ?_)) <;> first | (exfalso; omega) | (conv => whnf))
      | ((with_reducible refine Tst.not ?_))
      | (refine Wit.conv ⟨by omega, by omega⟩ ?_; conv => whnf)
      | ((with_reducible refine IdxV.nat (by omega) ?_); conv => whnf)
      | ((with_reducible refine SameW.mk rfl ?_); conv => whnf)
      | (refine LoadV.mem (i := 0) (by assumption) rfl rfl ?_; conv => whnf)
      | (refine LoadV.mem (i := 1) (by assumption) rfl rfl ?_; conv => whnf)
      | (refine LoadV.mem (i := 2) (by assumption) rfl rfl ?_; conv => whnf)
      | ((with_reducible refine Tst.beqT ?_))
      | ((with_reducible refine Tst.beqF ?_))
      | (refine Tst.yes rfl ?_; conv => whnf)
      | (refine Tst.no rfl ?_; conv => whnf)))
              exact ⟨by rw [if_pos ⟨rfl, .inl (by decide)⟩], hm4.ext⟩
        · rw [if_neg (by simp), if_neg (by simp)]
          (conv => whnf)
          (repeat' (first
      | (refine Obl.mk ⟨by omega, by omega⟩ ?_; conv => whnf)
      | (refine Obl.mk ⟨by omega, by omega, ⟨by omega, by omega⟩⟩ ?_; conv => whnf)
      | ((with_reducible refine Tst.tt ?_); conv => whnf)
      | ((with_reducible refine Tst.ff ?_); conv => whnf)
      | ((with_reducible refine Tst.dec (fun _ => ?_) (fun _ => ?_)) <;> first | (exfalso; omega) | (conv => whnf))
      | ((with_reducible refine Tst.not ?_))
      | (refine Wit.conv ⟨by omega, by omega⟩ ?_; conv => whnf)
      | ((with_reducible refine IdxV.nat (by omega) ?_); conv => whnf)
      | ((with_reducible refine SameW.mk rfl ?_); conv => whnf)
      | (refine LoadV.mem (i := 0) (by assumption) rfl rfl ?_; conv => whnf)
      | (refine LoadV.mem (i := 1) (by assumption) rfl rfl ?_; conv => whnf)
      | (refine LoadV.mem (i := 2) (by assumption) rfl rfl ?_; conv => whnf)
      | ((with_reducible refine Tst.beqT ?_))
      | ((with_reducible refine Tst.beqF ?_))
      | (refine Tst.yes rfl ?_; conv => whnf)
      | (refine Tst.no rfl ?_; conv => whnf)))
          show Tst ((!seq t.lang ⟨#[]⟩) == seq t.type tagged) _ _
          rw [hl]
          cases ht : seq t.type tagged
          · (conv => whnf)
            (repeat' (first
      | (refine Obl.mk ⟨by omega, by omega⟩ ?_; conv => whnf)
      | (refine Obl.mk ⟨by omega, by omega, ⟨by omega, by omega⟩⟩ ?_; conv => whnf)
      | ((with_reducible refine Tst.tt ?_); conv => whnf)
      | ((with_reducible refine Tst.ff ?_); conv => whnf)
      | ((with_reducible refine Tst.dec (fun _ => ?_) (fun _ => ?_)) <;> first | (exfalso; omega) | (conv => whnf))
      | ((with_reducible refine Tst.not ?_))
      | (refine Wit.conv ⟨by omega, by omega⟩ ?_; conv => whnf)
      | ((with_reducible refine IdxV.nat (by omega) ?_); conv => whnf)
      | ((with_reducible refine SameW.mk rfl ?_); conv => whnf)
      | (refine LoadV.mem (i := 0) (by assumption) rfl rfl ?_; conv => whnf)
      | (refine LoadV.mem (i := 1) (by assumption) rfl rfl ?_; conv => whnf)
      | (refine LoadV.mem (i := 2) (by assumption) rfl rfl ?_; conv => whnf)
      | ((with_reducible refine Tst.beqT ?_))
      | ((with_reducible refine Tst.beqF ?_))
      | (refine Tst.yes rfl ?_; conv => whnf)
      | (refine Tst.no rfl ?_; conv => whnf)))
            exact ⟨rfl, hm.ext⟩
          · (conv => whnf)
            (repeat' (first
      | (refine Obl.mk ⟨by omega, by omega⟩ ?_; conv => whnf)
      | (refine Obl.mk ⟨by omega, by omega, ⟨by omega, by omega⟩⟩ ?_; conv => whnf)
      | ((with_reducible refine Tst.tt ?_); conv => whnf)
      | ((with_reducible refine Tst.ff ?_); conv => whnf)
      | ((with_reducible refine Tst.dec (fun _ => ?_) (fun _ => ?_)) <;> first | (exfalso; omega) | (conv => whnf))
      | ((with_reducible refine Tst.not ?_))
      | (refine Wit.conv ⟨by omega, by omega⟩ ?_; conv => whnf)
      | ((with_reducible refine IdxV.nat (by omega) ?_); conv => whnf)
      | ((with_reducible refine SameW.mk rfl ?_); conv => whnf)
      | (refine LoadV.mem (i := 0) (by assumption) rfl rfl ?_; conv => whnf)
      | (refine LoadV.mem (i := 1) (by assumption) rfl rfl ?_; conv => whnf)
      | (refine LoadV.mem (i := 2) (by assumption) rfl rfl ?_; conv => whnf)
      | ((with_reducible refine Tst.beqT ?_))
      | ((with_reducible refine Tst.beqF ?_))
      | (refine Tst.yes rfl ?_; conv => whnf)
      | (refine Tst.no rfl ?_; conv => whnf)))
            exact ⟨rfl, hm.ext⟩
theorem refTermCheck_any (t : TM) (ht : TermOk t) (w : World) : Gv Tryz.prog 90 [termV t] w fun v w' => v = .int .i64 (termE t) ∧ Ext w w' := by
  have hlit := fun w1 => refLiteral_any t ht w1
  obtain ⟨h1, h2, h3, h4⟩ := ht
  refine gv (by kernel_rfl) Tryz.func90 rfl Tryz.ntmps90 rfl ?_; conv => whnf
  refine NewV.mem (Mem.nil w) ?_
  intro b w1 hm
  (conv => whnf)
  have hA : (t.kind = 1 ∨ t.kind = 2) → termE t = if seq t.type ⟨#[]⟩ = false ∨ seq t.lang ⟨#[]⟩ = false then 70 else if t.kind = 1 then iriE t.text else if 65536 < t.text.size then 2 else labE t.text := fun h => by rw [termE, if_pos h]
  have hB : ¬ (t.kind = 1 ∨ t.kind = 2) → termE t = if t.kind = 3 then litE t else 70 := fun h => by rw [termE, if_neg h]
  (repeat' (first
      | (refine Obl.mk ⟨by omega, by omega⟩ ?_; conv => whnf)
      | (refine Obl.mk ⟨by omega, by omega, ⟨by omega, by omega⟩⟩ ?_; conv => whnf)
      | ((with_reducible refine Tst.tt ?_); conv => whnf)
      | ((with_reducible refine Tst.ff ?_); conv => whnf)
      | ((with_reducible refine Tst.dec (fun _ => ?_) (fun _ => ?_)) <;> first | (exfalso; omega) | (conv => whnf))
      | ((with_reducible refine Tst.not ?_))
      | (refine Wit.conv ⟨by omega, by omega⟩ ?_; conv => whnf)
      | ((with_reducible refine IdxV.nat (by omega) ?_); conv => whnf)
      | ((with_reducible refine SameW.mk rfl ?_); conv => whnf)
      | (refine LoadV.mem (i := 0) (by assumption) rfl rfl ?_; conv => whnf)
      | (refine LoadV.mem (i := 1) (by assumption) rfl rfl ?_; conv => whnf)
      | (refine LoadV.mem (i := 2) (by assumption) rfl rfl ?_; conv => whnf)
      | ((with_reducible refine Tst.beqT ?_))
      | ((with_reducible refine Tst.beqF ?_))
      | (refine Tst.yes rfl ?_; conv => whnf)
      | (refine Tst.no rfl ?_; conv => whnf)))
  · rw [hA (.inl (by assumption))]
    cases hy : seq t.type ⟨#[]⟩
    · (conv => whnf)
      (repeat' (first
      | (refine Obl.mk ⟨by omega, by omega⟩ ?_; conv => whnf)
      | (refine Obl.mk ⟨by omega, by omega, ⟨by omega, by omega⟩⟩ ?_; conv => whnf)
      | ((with_reducible refine Tst.tt ?_); conv => whnf)
      | ((with_reducible refine Tst.ff ?_); conv => whnf)
      | ((with_reducible refine Tst.dec (fun _ => ?_) (fun _ => ?_)) <;> first | (exfalso; omega) | (conv => whnf))
      | ((with_reducible refine Tst.not ?_))
      | (refine Wit.conv ⟨by omega, by omega⟩ ?_; conv => whnf)
      | ((with_reducible refine IdxV.nat (by omega) ?_); conv => whnf)
      | ((with_reducible refine SameW.mk rfl ?_); conv => whnf)
      | (refine LoadV.mem (i := 0) (by assumption) rfl rfl ?_; conv => whnf)
      | (refine LoadV.mem (i := 1) (by assumption) rfl rfl ?_; conv => whnf)
      | (refine LoadV.mem (i := 2) (by assumption) rfl rfl ?_; conv => whnf)
      | ((with_reducible refine Tst.beqT ?_))
      | ((with_reducible refine Tst.beqF ?_))
      | (refine Tst.yes rfl ?_; conv => whnf)
      | (refine Tst.no rfl ?_; conv => whnf)))
      exact ⟨by rw [if_pos (.inl rfl)]; rfl, hm.ext⟩
    · (conv => whnf)
      (repeat' (first
      | (refine Obl.mk ⟨by omega, by omega⟩ ?_; conv => whnf)
      | (refine Obl.mk ⟨by omega, by omega, ⟨by omega, by omega⟩⟩ ?_; conv => whnf)
      | ((with_reducible refine Tst.tt ?_); conv => whnf)
      | ((with_reducible refine Tst.ff ?_); conv => whnf)
      | ((with_reducible refine Tst.dec (fun _ => ?_) (fun _ => ?_)) <;> first | (exfalso; omega) | (conv => whnf))
      | ((with_reducible refine Tst.not ?_))
      | (refine Wit.conv ⟨by omega, by omega⟩ ?_; conv => whnf)
      | ((with_reducible refine IdxV.nat (by omega) ?_); conv => whnf)
      | ((with_reducible refine SameW.mk rfl ?_); conv => whnf)
      | (refine LoadV.mem (i := 0) (by assumption) rfl rfl ?_; conv => whnf)
      | (refine LoadV.mem (i := 1) (by assumption) rfl rfl ?_; conv => whnf)
      | (refine LoadV.mem (i := 2) (by assumption) rfl rfl ?_; conv => whnf)
      | ((with_reducible refine Tst.beqT ?_))
      | ((with_reducible refine Tst.beqF ?_))
      | (refine Tst.yes rfl ?_; conv => whnf)
      | (refine Tst.no rfl ?_; conv => whnf)))
      cases hl : seq t.lang ⟨#[]⟩
      · (conv => whnf)
        (repeat' (first
      | (refine Obl.mk ⟨by omega, by omega⟩ ?_; conv => whnf)
      | (refine Obl.mk ⟨by omega, by omega, ⟨by omega, by omega⟩⟩ ?_; conv => whnf)
      | ((with_reducible refine Tst.tt ?_); conv => whnf)
      | ((with_reducible refine Tst.ff ?_); conv => whnf)
      | ((with_reducible refine Tst.dec (fun _ => ?_) (fun _ => ?_)) <;> first | (exfalso; omega) | (conv => whnf))
      | ((with_reducible refine Tst.not ?_))
      | (refine Wit.conv ⟨by omega, by omega⟩ ?_; conv => whnf)
      | ((with_reducible refine IdxV.nat (by omega) ?_); conv => whnf)
      | ((with_reducible refine SameW.mk rfl ?_); conv => whnf)
      | (refine LoadV.mem (i := 0) (by assumption) rfl rfl ?_; conv => whnf)
      | (refine LoadV.mem (i := 1) (by assumption) rfl rfl ?_; conv => whnf)
      | (refine LoadV.mem (i := 2) (by assumption) rfl rfl ?_; conv => whnf)
      | ((with_reducible refine Tst.beqT ?_))
      | ((with_reducible refine Tst.beqF ?_))
      | (refine Tst.yes rfl ?_; conv => whnf)
      | (refine Tst.no rfl ?_; conv => whnf)))
        exact ⟨by rw [if_pos (.inr rfl)]; rfl, hm.ext⟩
      · rw [if_neg (by simp), if_pos (by assumption)]
        (conv => whnf)
        (repeat' (first
      | (refine Obl.mk ⟨by omega, by omega⟩ ?_; conv => whnf)
      | (refine Obl.mk ⟨by omega, by omega, ⟨by omega, by omega⟩⟩ ?_; conv => whnf)
      | ((with_reducible refine Tst.tt ?_); conv => whnf)
      | ((with_reducible refine Tst.ff ?_); conv => whnf)
      | ((with_reducible refine Tst.dec (fun _ => ?_) (fun _ => ?_)) <;> first | (exfalso; omega) | (conv => whnf))
      | ((with_reducible refine Tst.not ?_))
      | (refine Wit.conv ⟨by omega, by omega⟩ ?_; conv => whnf)
      | ((with_reducible refine IdxV.nat (by omega) ?_); conv => whnf)
      | ((with_reducible refine SameW.mk rfl ?_); conv => whnf)
      | (refine LoadV.mem (i := 0) (by assumption) rfl rfl ?_; conv => whnf)
      | (refine LoadV.mem (i := 1) (by assumption) rfl rfl ?_; conv => whnf)
      | (refine LoadV.mem (i := 2) (by assumption) rfl rfl ?_; conv => whnf)
      | ((with_reducible refine Tst.beqT ?_))
      | ((with_reducible refine Tst.beqF ?_))
      | (refine Tst.yes rfl ?_; conv => whnf)
      | (refine Tst.no rfl ?_; conv => whnf)))
        refine CallV.of (refIriCheck_any t.text (by omega) w1) ?_
        rintro v w2 ⟨rfl, he⟩
        (conv => whnf)
        exact ⟨rfl, hm.ext.trans he⟩
  · rw [hA (.inr (by assumption))]
    cases hy : seq t.type ⟨#[]⟩
    · (conv => whnf)
      (repeat' (first
      | (refine Obl.mk ⟨by omega, by omega⟩ ?_; conv => whnf)
      | (refine Obl.mk ⟨by omega, by omega, ⟨by omega, by omega⟩⟩ ?_; conv => whnf)
      | ((with_reducible refine Tst.tt ?_); conv => whnf)
      | ((with_reducible refine Tst.ff ?_); conv => whnf)
      | ((with_reducible refine Tst.dec (fun _ => ?_) (fun _ => ?_)) <;> first | (exfalso; omega) | (conv => whnf))
      | ((with_reducible refine Tst.not ?_))
      | (refine Wit.conv ⟨by omega, by omega⟩ ?_; conv => whnf)
      | ((with_reducible refine IdxV.nat (by omega) ?_); conv => whnf)
      | ((with_reducible refine SameW.mk rfl ?_); conv => whnf)
      | (refine LoadV.mem (i := 0) (by assumption) rfl rfl ?_; conv => whnf)
      | (refine LoadV.mem (i := 1) (by assumption) rfl rfl ?_; conv => whnf)
      | (refine LoadV.mem (i := 2) (by assumption) rfl rfl ?_; conv => whnf)
      | ((with_reducible refine Tst.beqT ?_))
      | ((with_reducible refine Tst.beqF ?_))
      | (refine Tst.yes rfl ?_; conv => whnf)
      | (refine Tst.no rfl ?_; conv => whnf)))
      exact ⟨by rw [if_pos (.inl rfl)]; rfl, hm.ext⟩
    · (conv => whnf)
      (repeat' (first
      | (refine Obl.mk ⟨by omega, by omega⟩ ?_; conv => whnf)
      | (refine Obl.mk ⟨by omega, by omega, ⟨by omega, by omega⟩⟩ ?_; conv => whnf)
      | ((with_reducible refine Tst.tt ?_); conv => whnf)
      | ((with_reducible refine Tst.ff ?_); conv => whnf)
      | ((with_reducible refine Tst.dec (fun _ => ?_) (fun _ => ?_)) <;> first | (exfalso; omega) | (conv => whnf))
      | ((with_reducible refine Tst.not ?_))
      | (refine Wit.conv ⟨by omega, by omega⟩ ?_; conv => whnf)
      | ((with_reducible refine IdxV.nat (by omega) ?_); conv => whnf)
      | ((with_reducible refine SameW.mk rfl ?_); conv => whnf)
      | (refine LoadV.mem (i := 0) (by assumption) rfl rfl ?_; conv => whnf)
      | (refine LoadV.mem (i := 1) (by assumption) rfl rfl ?_; conv => whnf)
      | (refine LoadV.mem (i := 2) (by assumption) rfl rfl ?_; conv => whnf)
      | ((with_reducible refine Tst.beqT ?_))
      | ((with_reducible refine Tst.beqF ?_))
      | (refine Tst.yes rfl ?_; conv => whnf)
      | (refine Tst.no rfl ?_; conv => whnf)))
      cases hl : seq t.lang ⟨#[]⟩
      · (conv => whnf)
        (repeat' (first
      | (refine Obl.mk ⟨by omega, by omega⟩ ?_; conv => whnf)
      | (refine Obl.mk ⟨by omega, by omega, ⟨by omega, by omega⟩⟩ ?_; conv => whnf)
      | ((with_reducible refine Tst.tt ?_); conv => whnf)
      | ((with_reducible refine Tst.ff ?_); conv => whnf)
      | ((with_reducible refine Tst.dec (fun _ => ?_) (fun _ => ?_)) <;> first | (exfalso; omega) | (conv => whnf))
      | ((with_reducible refine Tst.not ?_))
      | (refine Wit.conv ⟨by omega, by omega⟩ ?_; conv => whnf)
      | ((with_reducible refine IdxV.nat (by omega) ?_); conv => whnf)
      | ((with_reducible refine SameW.mk rfl ?_); conv => whnf)
      | (refine LoadV.mem (i := 0) (by assumption) rfl rfl ?_; conv => whnf)
      | (refine LoadV.mem (i := 1) (by assumption) rfl rfl ?_; conv => whnf)
      | (refine LoadV.mem (i := 2) (by assumption) rfl rfl ?_; conv => whnf)
      | ((with_reducible refine Tst.beqT ?_))
      | ((with_reducible refine Tst.beqF ?_))
      | (refine Tst.yes rfl ?_; conv => whnf)
      | (refine Tst.no rfl ?_; conv => whnf)))
        exact ⟨by rw [if_pos (.inr rfl)]; rfl, hm.ext⟩
      · rw [if_neg (by simp), if_neg (by omega)]
        (conv => whnf)
        (repeat' (first
      | (refine Obl.mk ⟨by omega, by omega⟩ ?_; conv => whnf)
      | (refine Obl.mk ⟨by omega, by omega, ⟨by omega, by omega⟩⟩ ?_; conv => whnf)
      | ((with_reducible refine Tst.tt ?_); conv => whnf)
      | ((with_reducible refine Tst.ff ?_); conv => whnf)
      | ((with_reducible refine Tst.dec (fun _ => ?_) (fun _ => ?_)) <;> first | (exfalso; omega) | (conv => whnf))
      | ((with_reducible refine Tst.not ?_))
      | (refine Wit.conv ⟨by omega, by omega⟩ ?_; conv => whnf)
      | ((with_reducible refine IdxV.nat (by omega) ?_); conv => whnf)
      | ((with_reducible refine SameW.mk rfl ?_); conv => whnf)
      | (refine LoadV.mem (i := 0) (by assumption) rfl rfl ?_; conv => whnf)
      | (refine LoadV.mem (i := 1) (by assumption) rfl rfl ?_; conv => whnf)
      | (refine LoadV.mem (i := 2) (by assumption) rfl rfl ?_; conv => whnf)
      | ((with_reducible refine Tst.beqT ?_))
      | ((with_reducible refine Tst.beqF ?_))
      | (refine Tst.yes rfl ?_; conv => whnf)
      | (refine Tst.no rfl ?_; conv => whnf)))
        · exact ⟨by rw [if_pos (by omega)]; rfl, hm.ext⟩
        · rw [if_neg (by omega)]
          refine CallV.of (refLabel_any t.text (by omega) w1) ?_
          rintro v w2 ⟨rfl, he⟩
          (conv => whnf)
          exact ⟨rfl, hm.ext.trans he⟩
  · rw [hB (by omega), if_pos (by assumption)]
    refine LoadA.mem hm (i := 0) rfl rfl ?_
    (conv => whnf)
    refine CallV.of (hlit w1) ?_
    rintro v w2 ⟨rfl, he⟩
    (conv => whnf)
    exact ⟨rfl, hm.ext.trans he⟩
  · exact ⟨by rw [hB (by omega), if_neg (by omega)]; rfl, hm.ext⟩
end Go.Proofs.YtajgbepghniciaaGreatDoor
namespace Go.Proofs.YtajgbepghniciaaGreatDoor
open Go.RowKit
namespace V
theorem StoreV.rw {w0 w : World} {A : Option Addr} {n c g j : Nat} {e : TypeId} {xs : List Value} {L : List (Nat × Obj)} {v : Value} {K : World → Prop} (h : Rw w0 w (.slice A n c) e 1 n xs L) (hA : A = some ⟨g, 0, none⟩) (hj : j < n)
    (h1 : oneCell v = true) (hk : ∀ w', Rw w0 w' (.slice A n c) e 1 n (xs.set j v) L → K w') : StoreV w g j v K := by
  subst hA
  have hxl := h.own.1
  rcases h.own.2 with ⟨e1, e2⟩ | ⟨g', cap, cur, e1, hb, hg, h2, h3, h4, h5⟩
  · cases e1
  · cases e1
    refine StoreV.own hg (by omega) h1 fun w' hw => hk w' ⟨?_, ?_, h.apart⟩
    · subst hw
      refine ⟨h.mem.ext.setCell hb v, fun x hx => ⟨(h.mem.own x hx).1, ?_⟩, h.mem.nodup⟩
      rw [Below.heap_setCell _ _ _ _ (fun e => h.apart x hx (by rw [e]; rfl))]
      exact (h.mem.own x hx).2
    · subst hw
      refine ⟨by simp [hxl], .inr ⟨g, c, cur.setIfInBounds j v, rfl, hb, heap_setCell hg, h2, h3, by simp [h4], ?_⟩⟩
      rw [← h5]
      simp [List.take_set]
/-- a block that is stored into as a whole -/
theorem StoreA.all {P : Program} {w0 w : World} {L : List (Nat × Obj)} {i b : Nat} {cur : Array Value} {t : TypeId} {vs : List Value} {K : World → Prop} (h : Mem w0 w L) (hi : L[i]? = some (b, .cells cur t (0, 0)))
    (hl : cur.size = vs.length) (h1 : ∀ v ∈ vs, v.oneCell' = true) (hk : ∀ w', Mem w0 w' (L.set i (b, .cells vs.toArray t (0, 0))) → K w') : StoreA P w b 0 vs K := by
  refine StoreA.mem h hi (by omega) h1 fun w' hw => hk w' ?_
  have e : (cur.toList.take 0 ++ vs ++ cur.toList.drop (0 + vs.length)).toArray = vs.toArray := by
    rw [List.take_zero, List.nil_append, List.drop_eq_nil_of_le (by simp; omega), List.append_nil]
  rwa [e] at hw
end V
open V
theorem less_lt : ∀ (x y : List UInt8), Op.bytesLess x y = decide (x < y)
  | [], [] => by simp [Op.bytesLess]
  | _ :: _, [] => by simp [Op.bytesLess]
  | [], _ :: _ => by simp [Op.bytesLess]
  | a :: x, b :: y => by
    rw [Op.bytesLess, less_lt x y]
    simp only [List.cons_lt_cons_iff]
    by_cases h1 : a < b <;> by_cases h2 : a = b <;> by_cases h3 : x < y <;> simp [h1, h2, h3]
theorem slt_iff {a b : ByteArray} : slt a b = true ↔ a.data.toList < b.data.toList := by
  unfold slt
  rw [less_lt, ByteArray.toList_eq, ByteArray.toList_eq, decide_eq_true_iff]
theorem slt_irrefl (a : ByteArray) : slt a a = false := by
  rw [← Bool.not_eq_true, slt_iff]
  exact List.lt_irrefl _
theorem slt_trans {a b c : ByteArray} (h : slt a b = true) (k : slt b c = true) : slt a c = true := by
  rw [slt_iff] at *
  exact List.lt_trans h k
theorem slt_tri (a b : ByteArray) : slt a b = true ∨ a = b ∨ slt b a = true := by
  rw [slt_iff, slt_iff]
  by_cases h1 : a.data.toList < b.data.toList
  · exact .inl h1
  · by_cases h2 : b.data.toList < a.data.toList
    · exact .inr (.inr h2)
    · refine .inr (.inl ?_)
      have := List.le_antisymm (List.not_lt.1 h2) (List.not_lt.1 h1)
      cases a; cases b; simpa using this
def Sorted (l : List ByteArray) : Prop := l.Pairwise fun a b => slt a b = true
theorem sorted_same : ∀ {l m : List ByteArray}, Sorted l → Sorted m → (∀ x, x ∈ l ↔ x ∈ m) → l = m
  | [], [], _, _, _ => rfl
  | [], b :: m, _, _, h => by have := (h b).2 (List.mem_cons_self ..); simp at this
  | a :: l, [], _, _, h => by have := (h a).1 (List.mem_cons_self ..); simp at this
  | a :: l, b :: m, hl, hm, h => by
    have hl' := List.pairwise_cons.1 hl
    have hm' := List.pairwise_cons.1 hm
    have hab : a = b := by
      rcases List.mem_cons.1 ((h a).1 (List.mem_cons_self ..)) with e | e
      · exact e
      · rcases List.mem_cons.1 ((h b).2 (List.mem_cons_self ..)) with e' | e'
        · exact e'.symm
        · have := slt_trans (hm'.1 a e) (hl'.1 b e')
          rw [slt_irrefl] at this; cases this
    subst hab
    congr 1
    refine sorted_same hl'.2 hm'.2 fun x => ⟨fun hx => ?_, fun hx => ?_⟩
    · rcases List.mem_cons.1 ((h x).1 (List.mem_cons_of_mem _ hx)) with e | e
      · subst e
        have := hl'.1 x hx
        rw [slt_irrefl] at this; cases this
      · exact e
    · rcases List.mem_cons.1 ((h x).2 (List.mem_cons_of_mem _ hx)) with e | e
      · subst e
        have := hm'.1 x hx
        rw [slt_irrefl] at this; cases this
      · exact e
/-- x put into a sorted row at place n -/
theorem sorted_put {s : List ByteArray} {x : ByteArray} {n : Nat} (hs : Sorted s) (hx : x ∉ s) (hn : n ≤ s.length) (h1 : ∀ y ∈ s.drop n, slt x y = true) (h2 : ∀ y, s[n - 1]? = some y → 0 < n → slt x y = false) :
    Sorted (s.take n ++ x :: s.drop n) := by
  have hsp : Sorted (s.take n ++ s.drop n) := by rw [List.take_append_drop]; exact hs
  have hsp := List.pairwise_append.1 hsp
  refine List.pairwise_append.2 ⟨hsp.1, List.pairwise_cons.2 ⟨h1, hsp.2.1⟩, fun a ha b hb => ?_⟩
  rcases List.mem_cons.1 hb with rfl | hb
  · have hnpos : 0 < n := by
      rcases Nat.eq_zero_or_pos n with h | h
      · subst h; simp at ha
      · exact h
    have hl : n - 1 < s.length := by omega
    have hlast := h2 s[n - 1] (List.getElem?_eq_getElem hl) hnpos
    have hlt : slt s[n - 1] b = true := by
      rcases slt_tri s[n - 1] b with h | h | h
      · exact h
      · exact absurd (h ▸ List.getElem_mem hl) hx
      · rw [h] at hlast; cases hlast
    obtain ⟨i, hi, e⟩ := List.mem_iff_getElem.1 ha
    have hi' : i < n := by simp at hi; omega
    rw [List.getElem_take] at e
    subst e
    by_cases e : i = n - 1
    · subst e; exact hlt
    · exact slt_trans (List.pairwise_iff_getElem.1 hs i (n - 1) (by omega) hl (by omega)) hlt
  · exact hsp.2.2 a ha b hb
end Go.Proofs.YtajgbepghniciaaGreatDoor
namespace Go.Proofs.YtajgbepghniciaaGreatDoor
open Go.RowKit V
set_option maxRecDepth 100000
def sameT (a b : TM) : Bool := decide (a.kind = b.kind) && (seq a.text b.text && (seq a.type b.type && seq a.lang b.lang))
theorem fieldsTerm : Tryz.prog.underlying 73 = some (.struct (Tryz.prog.fieldsOf 73)) := by kernel_rfl
theorem stoodTerm : Tryz.prog.stoodInHeld 73 = false := by kernel_rfl
theorem guardTerm : Tryz.prog.eqGuardType Tryz.prog.depth 73 = false := by kernel_rfl
theorem run_equalIn_term (d : Nat) (a b : TM) (w : World) : (Op.equalIn (d + 2) 73 (termV a) (termV b)).run Tryz.prog w = .ok (sameT a b) w := by
  have u3 := Tryz.underlying3
  have a3 := Tryz.isAgg3
  have z3 := Tryz.sizeOf3
  have u9 := Tryz.underlying9
  have a9 := Tryz.isAgg9
  have z9 := Tryz.sizeOf9
  simp only [termV]
  rw [run_equalIn_agg w (d + 1) _ _ _ fieldsTerm stoodTerm]
  simp only [Program.fieldsOf, Tryz.underlying73]
  go_simp
  have e : ∀ x y : ByteArray, (x.toList = y.toList) = (seq x y = true) := fun x y => by rw [← ba_beq, beq_iff_eq]
  simp only [e]
  by_cases h1 : a.kind = b.kind <;> cases h2 : seq a.text b.text <;> cases h3 : seq a.type b.type <;> cases h4 : seq a.lang b.lang <;> simp [sameT, h1, h2, h3, h4]
namespace V
theorem RunV.eqTerm {op : BinOp} {xo yo : Operand} {a b : TM} {w : World} {K : Value → World → Prop} (ho : op = .eql ∨ op = .neq) (h : K (.bool (bif eqOp op then sameT a b else !sameT a b)) w) :
    RunV Tryz.prog (do eqGuard op 73 xo yo (termV a) (termV b); binOp op 73 (termV a) (termV b)) w K := by
  refine ⟨_, w, ?_, h⟩
  rw [Sem.run_bind, termV, termV, run_eqGuard_agg w op _ xo yo _ _ guardTerm, Result.andThen_ok]
  have e := run_equalIn_term 9998 a b w
  simp only [termV] at e
  rcases ho with rfl | rfl
  · rw [run_eql_struct, e]; rfl
  · rw [run_neq_struct, e]; rfl
end V
end Go.Proofs.YtajgbepghniciaaGreatDoor
namespace Go.Proofs.YtajgbepghniciaaGreatDoor
open Go.RowKit V
set_option maxRecDepth 100000

structure SL where
  v : ByteArray
  t : TM
structure GL where
  s : SL
  p : SL
  o : SL
  g : SL
structure TS where
  op : Int
  l : SL
  r : SL
def slC (s : SL) : List Value := [.string s.v, .int .i64 s.t.kind, .string s.t.text, .string s.t.type, .string s.t.lang]
def goC (g : GL) : List Value := [.string g.s.v, .int .i64 g.s.t.kind, .string g.s.t.text, .string g.s.t.type, .string g.s.t.lang, .string g.p.v, .int .i64 g.p.t.kind, .string g.p.t.text, .string g.p.t.type, .string g.p.t.lang,
  .string g.o.v, .int .i64 g.o.t.kind, .string g.o.t.text, .string g.o.t.type, .string g.o.t.lang, .string g.g.v, .int .i64 g.g.t.kind, .string g.g.t.text, .string g.g.t.type, .string g.g.t.lang]
def goV (g : GL) : Value := .agg #[.string g.s.v, .int .i64 g.s.t.kind, .string g.s.t.text, .string g.s.t.type, .string g.s.t.lang, .string g.p.v, .int .i64 g.p.t.kind, .string g.p.t.text, .string g.p.t.type, .string g.p.t.lang,
  .string g.o.v, .int .i64 g.o.t.kind, .string g.o.t.text, .string g.o.t.type, .string g.o.t.lang, .string g.g.v, .int .i64 g.g.t.kind, .string g.g.t.text, .string g.g.t.type, .string g.g.t.lang]
def GL.at (g : GL) : Nat → SL
  | 0 => g.s
  | 1 => g.p
  | 2 => g.o
  | _ => g.g
structure SlotOk (s : SL) : Prop where
  v : s.v.size ≤ 1048576
  t : TermOk s.t
def GoalOk (g : GL) : Prop := ∀ k, SlotOk (g.at k)
def zeroT (t : TM) : Bool := decide (t.kind = 0) && (seq t.text ⟨#[]⟩ && (seq t.type ⟨#[]⟩ && seq t.lang ⟨#[]⟩))
def canB (k : Nat) (t : TM) : Bool :=
  if k = 0 then decide (t.kind = 1) || decide (t.kind = 2) else if k = 1 then decide (t.kind = 1) else if k = 2 then decide (1 ≤ t.kind) && decide (t.kind ≤ 3) else zeroT t || decide (t.kind = 1) || decide (t.kind = 2)
noncomputable def slotE (k : Nat) (s : SL) : Nat :=
  if seq s.v ⟨#[]⟩ = false then (if labE s.v ≠ 0 then 210 else 0) else if canB k s.t = false then 70 else if s.t.kind = 0 then 0 else termE s.t
def firstE : List Nat → Nat
  | [] => 0
  | e :: l => if e ≠ 0 then e else firstE l
theorem firstE_app (a b : List Nat) : firstE (a ++ b) = if firstE a ≠ 0 then firstE a else firstE b := by
  induction a with
  | nil => simp [firstE]
  | cons x a ih =>
    by_cases h : x ≠ 0
    · simp [firstE, h]
    · simp only [List.cons_append, firstE, if_neg h, ih]
theorem firstE_zero {l : List Nat} (h : ∀ j (hj : j < l.length), l[j] = 0) : firstE l = 0 := by
  induction l with
  | nil => rfl
  | cons x l ih =>
    have h0 := h 0 (by simp)
    simp only [List.getElem_cons_zero] at h0
    rw [firstE, if_neg (by omega)]
    exact ih fun j hj => by have := h (j + 1) (by simp; omega); rwa [List.getElem_cons_succ] at this
theorem firstE_at {l : List Nat} {k : Nat} (hk : k < l.length) (h : ∀ j (hj : j < l.length), j < k → l[j] = 0) (hne : l[k] ≠ 0) : firstE l = l[k] := by
  induction l generalizing k with
  | nil => simp at hk
  | cons x l ih =>
    cases k with
    | zero => simp only [List.getElem_cons_zero] at hne ⊢; rw [firstE, if_pos hne]
    | succ k =>
      have h0 := h 0 (by simp) (by omega)
      simp only [List.getElem_cons_zero] at h0
      rw [firstE, if_neg (by omega)]
      simp only [List.getElem_cons_succ] at hne ⊢
      exact ih (by simpa using hk) (fun j hj hjk => by have := h (j + 1) (by simp; omega) (by omega); rwa [List.getElem_cons_succ] at this) hne
noncomputable def goalE (g : GL) : Nat := firstE ((List.range 4).map fun k => slotE k (g.at k))
theorem goC_at {g : GL} {w : World} {b off : Nat} (h : CellsAt w b off (goC g)) (k : Nat) (hk : k < 4) : CellsAt w b (off + k * 5) (slC (g.at k)) := by
  intro j v hv
  have hj : j < 5 := (List.getElem?_eq_some_iff.1 hv).1
  have := h (k * 5 + j) v (by
    obtain rfl | rfl | rfl | rfl : k = 0 ∨ k = 1 ∨ k = 2 ∨ k = 3 := by omega
    all_goals
      obtain rfl | rfl | rfl | rfl | rfl : j = 0 ∨ j = 1 ∨ j = 2 ∨ j = 3 ∨ j = 4 := by omega
      all_goals exact hv)
  rwa [← Nat.add_assoc] at this
theorem CellsAt.tail {w : World} {b off : Nat} {v : Value} {vs : List Value} (h : CellsAt w b off (v :: vs)) : CellsAt w b (off + 1) vs := fun j x hx => by
  have := h (j + 1) x (by simpa using hx)
  rwa [show off + 1 + j = off + (j + 1) by omega]
theorem CellsAt.mem {w0 w : World} {L : List (Nat × Obj)} {b : Nat} {cs : Array Value} {t : TypeId} {fr : Nat × Nat} (h : Mem w0 w L) (hi : (b, Obj.cells cs t fr) ∈ L) : CellsAt w b 0 cs.toList := fun k v hv => by
  rw [cell_heap (h.get hi), Nat.zero_add]
  simpa using hv
theorem goC_one (g : GL) : ∀ v ∈ goC g, v.oneCell' = true := by
  intro v hv
  simp only [goC, List.mem_cons, List.not_mem_nil, or_false] at hv
  rcases hv with rfl | rfl | rfl | rfl | rfl | rfl | rfl | rfl | rfl | rfl | rfl | rfl | rfl | rfl | rfl | rfl | rfl | rfl | rfl | rfl <;> rfl
theorem number_any (l : List ByteArray) (A : Option Addr) (c : Nat) (x : ByteArray) (w : World) (hS : SlAt V.encS 1 w A l) (hl : l.length ≤ 4611686018427387904) :
    Gv Tryz.prog 42 [.slice A l.length c, .string x] w fun v w' => (∃ i : Int, v = .int .i64 i ∧ -1 ≤ i ∧ i ≤ 4611686018427387904 ∧ (x ∈ l ↔ 0 ≤ i)) ∧ w' = w := by
  refine gv (by kernel_rfl) Tryz.func42 rfl Tryz.ntmps42 rfl ?_; conv => whnf
  refine loopV (fun i : Nat => [(0, .slice A l.length c), (1, .string x), (5, .int .i64 i)]) (fun i w1 => i ≤ l.length ∧ (∀ j (hj : j < l.length), j < i → l[j] ≠ x) ∧ w1 = w) (fun i => l.length - i) 0 ⟨rfl, rfl, rfl, trivial⟩ ⟨by omega, fun j hj h0 => by omega, rfl⟩ ?_
  rintro i w1 ρ' ⟨h1, h2, rfl⟩
  (conv => whnf)
  (repeat' (first
      | (refine Obl.mk ⟨by omega, by omega⟩ ?_; conv => whnf)
      | (refine Obl.mk ⟨by omega, by omega, ⟨by omega, by omega⟩⟩ ?_; conv => whnf)
      | ((with_reducible refine Tst.tt ?_); conv => whnf)
      | ((with_reducible refine Tst.ff ?_); conv => whnf)
      | ((with_reducible refine Tst.dec (fun _ => ?_) (fun _ => ?_)) <;> first | (exfalso; omega) | (conv => whnf))
      | ((with_reducible refine Tst.not ?_))
      | (refine Wit.conv ⟨by omega, by omega⟩ ?_; conv => whnf)
      | ((with_reducible refine IdxV.nat (by omega) ?_); conv => whnf)
      | ((with_reducible refine SameW.mk rfl ?_); conv => whnf)
      | (refine LoadV.mem (i := 0) (by assumption) rfl rfl ?_; conv => whnf)
      | (refine LoadV.mem (i := 1) (by assumption) rfl rfl ?_; conv => whnf)
      | (refine LoadV.mem (i := 2) (by assumption) rfl rfl ?_; conv => whnf)
      | ((with_reducible refine Tst.beqT ?_))
      | ((with_reducible refine Tst.beqF ?_))
      | (refine Tst.yes rfl ?_; conv => whnf)
      | (refine Tst.no rfl ?_; conv => whnf)))
  · have hi : i < l.length := by omega
    refine ElemV.sl hS rfl i rfl hi ?_
    intro b off hcl
    (conv => whnf)
    refine LoadV.cell0 hcl ?_
    (conv => whnf)
    cases q : seq l[i] x
    · (conv => whnf)
      (repeat' (first
      | (refine Obl.mk ⟨by omega, by omega⟩ ?_; conv => whnf)
      | (refine Obl.mk ⟨by omega, by omega, ⟨by omega, by omega⟩⟩ ?_; conv => whnf)
      | ((with_reducible refine Tst.tt ?_); conv => whnf)
      | ((with_reducible refine Tst.ff ?_); conv => whnf)
      | ((with_reducible refine Tst.dec (fun _ => ?_) (fun _ => ?_)) <;> first | (exfalso; omega) | (conv => whnf))
      | ((with_reducible refine Tst.not ?_))
      | (refine Wit.conv ⟨by omega, by omega⟩ ?_; conv => whnf)
      | ((with_reducible refine IdxV.nat (by omega) ?_); conv => whnf)
      | ((with_reducible refine SameW.mk rfl ?_); conv => whnf)
      | (refine LoadV.mem (i := 0) (by assumption) rfl rfl ?_; conv => whnf)
      | (refine LoadV.mem (i := 1) (by assumption) rfl rfl ?_; conv => whnf)
      | (refine LoadV.mem (i := 2) (by assumption) rfl rfl ?_; conv => whnf)
      | ((with_reducible refine Tst.beqT ?_))
      | ((with_reducible refine Tst.beqF ?_))
      | (refine Tst.yes rfl ?_; conv => whnf)
      | (refine Tst.no rfl ?_; conv => whnf)))
      refine ⟨i + 1, ⟨rfl, rfl, rfl, trivial⟩, ⟨by omega, fun j hj hji => ?_, rfl⟩, by omega⟩
      by_cases e : j = i
      · subst e
        intro e'
        rw [seq_iff.2 e'] at q; cases q
      · exact h2 j hj (by omega)
    · (conv => whnf)
      (repeat' (first
      | (refine Obl.mk ⟨by omega, by omega⟩ ?_; conv => whnf)
      | (refine Obl.mk ⟨by omega, by omega, ⟨by omega, by omega⟩⟩ ?_; conv => whnf)
      | ((with_reducible refine Tst.tt ?_); conv => whnf)
      | ((with_reducible refine Tst.ff ?_); conv => whnf)
      | ((with_reducible refine Tst.dec (fun _ => ?_) (fun _ => ?_)) <;> first | (exfalso; omega) | (conv => whnf))
      | ((with_reducible refine Tst.not ?_))
      | (refine Wit.conv ⟨by omega, by omega⟩ ?_; conv => whnf)
      | ((with_reducible refine IdxV.nat (by omega) ?_); conv => whnf)
      | ((with_reducible refine SameW.mk rfl ?_); conv => whnf)
      | (refine LoadV.mem (i := 0) (by assumption) rfl rfl ?_; conv => whnf)
      | (refine LoadV.mem (i := 1) (by assumption) rfl rfl ?_; conv => whnf)
      | (refine LoadV.mem (i := 2) (by assumption) rfl rfl ?_; conv => whnf)
      | ((with_reducible refine Tst.beqT ?_))
      | ((with_reducible refine Tst.beqF ?_))
      | (refine Tst.yes rfl ?_; conv => whnf)
      | (refine Tst.no rfl ?_; conv => whnf)))
      exact ⟨⟨i, rfl, by omega, by omega, fun _ => by omega, fun _ => by rw [← seq_iff.1 q]; exact List.getElem_mem hi⟩, rfl⟩
  · refine ⟨⟨-1, rfl, by omega, by omega, fun hx => ?_, fun h => by omega⟩, rfl⟩
    obtain ⟨j, hj, e⟩ := List.mem_iff_getElem.1 hx
    exact absurd e (h2 j hj (by omega))
theorem V.vs_cut (k : Nat) {P : Program} {n : Nat} {ρ : Nat → Value} {w : World} {ops l : List Oper} {Q : (Nat → Value) → World → Prop} (h : ∀ rest, rest = l.drop k → regV P n ops Q (l.take k ++ rest) ρ w) : regV P n ops Q l ρ w := by
  have := h _ rfl
  rwa [List.take_append_drop] at this
theorem V.vs_at {P : Program} {n : Nat} {ρ : Nat → Value} {w : World} {ops l rest : List Oper} {Q : (Nat → Value) → World → Prop} (e : rest = l) (h : regV P n ops Q l ρ w) : regV P n ops Q rest ρ w := by subst e; exact h
theorem V.vs_buildP {P : Program} {ρ : Nat → Value} {w : World} {t : TypeId} {parts : Array (Nat × Operand)} {K : Value → World → Prop} {dst : Option Tmp} {ty : TypeId} {pos : String} {aft : Array Edge} {gd : Option (Nat × Bool)} {ps : List (Nat × Value)} (hp : evp ρ parts.toList = ps)
    (h : buildV P t ps fun v => K v w) : opV P ⟨dst, .build t parts, ty, pos, aft, gd⟩ ρ w K := by subst hp; exact h
def zSl : SL := ⟨⟨#[]⟩, ⟨0, ⟨#[]⟩, ⟨#[]⟩, ⟨#[]⟩⟩⟩
def zGo : GL := ⟨zSl, zSl, zSl, zSl⟩
theorem i97 : (Tryz.prog.info? 97).isSome = true := by kernel_rfl
theorem z97 : ((Tryz.prog.info? 97).get i97).zero = some (goV zGo) := by kernel_rfl
theorem f97 (g : GL) : fillL (fun k => some (k * tsz Tryz.prog 88, tsz Tryz.prog 88)) (goV zGo).cells.toList
    [(0, .agg (slC g.s).toArray), (1, .agg (slC g.p).toArray), (2, .agg (slC g.o).toArray), (3, .agg (slC g.g).toArray)] = some (goC g) := by kernel_rfl
theorem build97 (g : GL) {K : Value → Prop} (hk : K (.agg (goC g).toArray)) : buildV Tryz.prog 97 [(0, .agg (slC g.s).toArray), (1, .agg (slC g.p).toArray), (2, .agg (slC g.o).toArray), (3, .agg (slC g.g).toArray)] K := by
  with_reducible refine V.buildV_arr (e := 88) (n := 4) (i := (Tryz.prog.info? 97).get i97) (z := goV zGo) (l := goC g) ?_ ?_ Tryz.underlying97 ?_ ?_ ?_
  · exact (Option.some_get _).symm
  · exact z97
  · kernel_rfl
  · exact f97 g
  · exact hk
set_option maxHeartbeats 400000 in
theorem refSlots_any (g : GL) (w : World) : Gv Tryz.prog 41 [goV g] w fun v w' => v = goV g ∧ Ext w w' := by
  refine gv (by kernel_rfl) Tryz.func41 rfl Tryz.ntmps41 rfl ?_
  refine vs_seq (vs_region ?_)
  (conv => whnf)
  refine NewV.mem (Mem.nil w) ?_
  intro b w1 hm1
  (conv => whnf)
  refine NewV.mem hm1 ?_
  intro r w2 hm2
  have hg : CellsAt w2 b 0 (goC g) := CellsAt.mem hm2 (List.mem_cons_of_mem _ (List.mem_cons_self ..))
  dsimp only
  with_reducible refine vs_put (d := 2) ?_ ?_
  · exact rfl
  try dsimp only
  with_reducible refine vs_nil ?_
  with_reducible refine vs_normal ?_
  with_reducible refine vs_seq ?_
  with_reducible refine vs_region ?_
  refine V.vs_cut 8 ?_
  intro rest hrest
  (conv => whnf)
  refine LoadA.cells (goC_at (off := 0) hg 0 (by omega)) rfl ?_
  (conv => whnf)
  refine LoadA.cells (goC_at (off := 0) hg 1 (by omega)) rfl ?_
  (conv => whnf)
  refine LoadA.cells (goC_at (off := 0) hg 2 (by omega)) rfl ?_
  (conv => whnf)
  refine LoadA.cells (goC_at (off := 0) hg 3 (by omega)) rfl ?_
  (conv => whnf)
  conv at hrest => rhs; whnf
  change regV _ _ _ _ rest _ _
  with_reducible refine V.vs_at hrest ?_
  clear hrest
  with_reducible refine vs_cons ?_ ?_
  · exact rfl
  with_reducible refine V.vs_buildP (ps := [(0, .agg (slC g.s).toArray), (1, .agg (slC g.p).toArray), (2, .agg (slC g.o).toArray), (3, .agg (slC g.g).toArray)]) ?_ ?_
  · kernel_rfl
  with_reducible refine build97 g ?_
  (conv => whnf)
  refine StoreA.all hm2 (i := 0) rfl rfl (goC_one g) ?_
  intro w3 hm3
  (conv => whnf)
  refine res_any (R := fun v w' => v = goV g ∧ Ext w w') ?_
  (conv => whnf)
  refine LoadA.mem hm3 (i := 0) rfl rfl ?_
  (conv => whnf)
  exact ⟨rfl, hm3.ext⟩
end Go.Proofs.YtajgbepghniciaaGreatDoor
namespace Go.Proofs.YtajgbepghniciaaGreatDoor
open Go.RowKit V
set_option maxRecDepth 100000
theorem can_any (k : Nat) (t : TM) (w : World) : Gv Tryz.prog 89 [.int .i64 k, termV t] w fun v w' => v = .bool (canB k t) ∧ Ext w w' := by
  refine gv (by kernel_rfl) Tryz.func89 rfl Tryz.ntmps89 rfl ?_; conv => whnf
  refine NewV.mem (Mem.nil w) ?_
  intro b w1 hm
  (conv => whnf)
  (repeat' (first
      | (refine Obl.mk ⟨by omega, by omega⟩ ?_; conv => whnf)
      | (refine Obl.mk ⟨by omega, by omega, ⟨by omega, by omega⟩⟩ ?_; conv => whnf)
      | ((with_reducible refine Tst.tt ?_); conv => whnf)
      | ((with_reducible refine Tst.ff ?_); conv => whnf)
      | ((with_reducible refine Tst.dec (fun _ => ?_) (fun _ => ?_)) <;> first | (exfalso; omega) | (conv => whnf))
      | ((with_reducible refine Tst.not ?_))
      | (refine Wit.conv ⟨by omega, by omega⟩ ?_; conv => whnf)
      | ((with_reducible refine IdxV.nat (by omega) ?_); conv => whnf)
      | ((with_reducible refine SameW.mk rfl ?_); conv => whnf)
      | (refine LoadV.mem (i := 0) (by assumption) rfl rfl ?_; conv => whnf)
      | (refine LoadV.mem (i := 1) (by assumption) rfl rfl ?_; conv => whnf)
      | (refine LoadV.mem (i := 2) (by assumption) rfl rfl ?_; conv => whnf)
      | ((with_reducible refine Tst.beqT ?_))
      | ((with_reducible refine Tst.beqF ?_))
      | (refine Tst.yes rfl ?_; conv => whnf)
      | (refine Tst.no rfl ?_; conv => whnf)))
  · exact ⟨congrArg Value.bool (by rw [canB, if_pos (by omega)]; simp [*]), hm.ext⟩
  · exact ⟨congrArg Value.bool (by rw [canB, if_pos (by omega)]; simp [*]), hm.ext⟩
  · exact ⟨congrArg Value.bool (by rw [canB, if_neg (by omega), if_pos (by omega)]), hm.ext⟩
  · exact ⟨congrArg Value.bool (by rw [canB, if_neg (by omega), if_neg (by omega), if_pos (by omega)]; simp [*]), hm.ext⟩
  · exact ⟨congrArg Value.bool (by rw [canB, if_neg (by omega), if_neg (by omega), if_pos (by omega)]; simp [*]), hm.ext⟩
  · refine LoadA.mem hm (i := 0) rfl rfl ?_
    (conv => whnf)
    refine RunV.eqTerm (a := t) (b := ⟨0, ⟨#[]⟩, ⟨#[]⟩, ⟨#[]⟩⟩) (.inl rfl) ?_
    have hc : canB k t = (zeroT t || decide (t.kind = 1) || decide (t.kind = 2)) := by rw [canB, if_neg (by omega), if_neg (by omega), if_neg (by omega)]
    have hz : sameT t ⟨0, ⟨#[]⟩, ⟨#[]⟩, ⟨#[]⟩⟩ = zeroT t := rfl
    rw [hz]
    cases hzt : zeroT t
    · rw [hzt] at hc
      (conv => whnf)
      (repeat' (first
      | (refine Obl.mk ⟨by omega, by omega⟩ ?_; conv => whnf)
      | (refine Obl.mk ⟨by omega, by omega, ⟨by omega, by omega⟩⟩ ?_; conv => whnf)
      | ((with_reducible refine Tst.tt ?_); conv => whnf)
      | ((with_reducible refine Tst.ff ?_); conv => whnf)
      | ((with_reducible refine Tst.dec (fun _ => ?_) (fun _ => ?_)) <;> first | (exfalso; omega) | (conv => whnf))
      | ((with_reducible refine Tst.not ?_))
      | (refine Wit.conv ⟨by omega, by omega⟩ ?_; conv => whnf)
      | ((with_reducible refine IdxV.nat (by omega) ?_); conv => whnf)
      | ((with_reducible refine SameW.mk rfl ?_); conv => whnf)
      | (refine LoadV.mem (i := 0) (by assumption) rfl rfl ?_; conv => whnf)
      | (refine LoadV.mem (i := 1) (by assumption) rfl rfl ?_; conv => whnf)
      | (refine LoadV.mem (i := 2) (by assumption) rfl rfl ?_; conv => whnf)
      | ((with_reducible refine Tst.beqT ?_))
      | ((with_reducible refine Tst.beqF ?_))
      | (refine Tst.yes rfl ?_; conv => whnf)
      | (refine Tst.no rfl ?_; conv => whnf)))
      all_goals (refine ⟨congrArg Value.bool ?_, hm.ext⟩; rw [hc]; simp [*])
    · rw [hzt] at hc
      (conv => whnf)
      (repeat' (first
      | (refine Obl.mk ⟨by omega, by omega⟩ ?_; conv => whnf)
      | (refine Obl.mk ⟨by omega, by omega, ⟨by omega, by omega⟩⟩ ?_; conv => whnf)
      | ((with_reducible refine Tst.tt ?_); conv => whnf)
      | ((with_reducible refine Tst.ff ?_); conv => whnf)
      | ((with_reducible refine Tst.dec (fun _ => ?_) (fun _ => ?_)) <;> first | (exfalso; omega) | (conv => whnf))
      | ((with_reducible refine Tst.not ?_))
      | (refine Wit.conv ⟨by omega, by omega⟩ ?_; conv => whnf)
      | ((with_reducible refine IdxV.nat (by omega) ?_); conv => whnf)
      | ((with_reducible refine SameW.mk rfl ?_); conv => whnf)
      | (refine LoadV.mem (i := 0) (by assumption) rfl rfl ?_; conv => whnf)
      | (refine LoadV.mem (i := 1) (by assumption) rfl rfl ?_; conv => whnf)
      | (refine LoadV.mem (i := 2) (by assumption) rfl rfl ?_; conv => whnf)
      | ((with_reducible refine Tst.beqT ?_))
      | ((with_reducible refine Tst.beqF ?_))
      | (refine Tst.yes rfl ?_; conv => whnf)
      | (refine Tst.no rfl ?_; conv => whnf)))
      all_goals (refine ⟨congrArg Value.bool ?_, hm.ext⟩; rw [hc]; simp)
set_option maxHeartbeats 400000 in
theorem refGoal_any (g : GL) (hg : GoalOk g) (w : World) : Gv Tryz.prog 49 [goV g] w fun v w' => v = .int .i64 (goalE g) ∧ Ext w w' := by
  refine gv (by kernel_rfl) Tryz.func49 rfl Tryz.ntmps49 rfl ?_; conv => whnf
  refine NewV.mem (Mem.nil w) ?_
  intro b w1 hm
  (conv => whnf)
  refine LoadA.mem hm (i := 0) rfl rfl ?_
  (conv => whnf)
  refine CallV.of (refSlots_any g w1) ?_
  rintro v w2 ⟨rfl, he2⟩
  have hm := hm.call he2
  (conv => whnf)
  refine NewV.mem hm ?_
  intro r w3 hm
  (conv => whnf)
  refine StoreA.all hm (i := 0) rfl rfl (goC_one g) ?_
  intro w4 hm
  have hgc : ∀ w', Ext w4 w' → CellsAt w' r 0 (goC g) := fun w' he => CellsAt.mem (hm.call he) (List.mem_cons_self ..)
  have hlen : ((List.range 4).map fun k => slotE k (g.at k)).length = 4 := by simp
  have hget : ∀ j (hj : j < ((List.range 4).map fun k => slotE k (g.at k)).length), ((List.range 4).map fun k => slotE k (g.at k))[j] = slotE j (g.at j) := fun j hj => by simp
  (conv => whnf)
  refine loopV (fun k : Nat => [(1, .pointer (some ⟨b, 0, none⟩)), (2, .int .i64 0), (3, .pointer (some ⟨r, 0, none⟩)), (4, .int .i64 k)])
    (fun k w' => k ≤ 4 ∧ (∀ j, j < k → slotE j (g.at j) = 0) ∧ Ext w4 w') (fun k => 4 - k) 0 ⟨rfl, rfl, rfl, rfl, trivial⟩ ⟨by omega, fun j h0 => by omega, Ext.refl _⟩ ?_
  rintro k w5 ρ' ⟨h1, h2, h3⟩
  (conv => whnf)
  (repeat' (first
      | (refine Obl.mk ⟨by omega, by omega⟩ ?_; conv => whnf)
      | (refine Obl.mk ⟨by omega, by omega, ⟨by omega, by omega⟩⟩ ?_; conv => whnf)
      | ((with_reducible refine Tst.tt ?_); conv => whnf)
      | ((with_reducible refine Tst.ff ?_); conv => whnf)
      | ((with_reducible refine Tst.dec (fun _ => ?_) (fun _ => ?_)) <;> first | (exfalso; omega) | (conv => whnf))
      | ((with_reducible refine Tst.not ?_))
      | (refine Wit.conv ⟨by omega, by omega⟩ ?_; conv => whnf)
      | ((with_reducible refine IdxV.nat (by omega) ?_); conv => whnf)
      | ((with_reducible refine SameW.mk rfl ?_); conv => whnf)
      | (refine LoadV.mem (i := 0) (by assumption) rfl rfl ?_; conv => whnf)
      | (refine LoadV.mem (i := 1) (by assumption) rfl rfl ?_; conv => whnf)
      | (refine LoadV.mem (i := 2) (by assumption) rfl rfl ?_; conv => whnf)
      | ((with_reducible refine Tst.beqT ?_))
      | ((with_reducible refine Tst.beqF ?_))
      | (refine Tst.yes rfl ?_; conv => whnf)
      | (refine Tst.no rfl ?_; conv => whnf)))
  · have hk : k < 4 := by omega
    have hc := goC_at (hgc w5 h3) k hk
    have hs := hg k
    have hbad : ∀ e, slotE k (g.at k) = e → e ≠ 0 → goalE g = e := fun e he hne => by
      rw [goalE, firstE_at (k := k) (by rw [hlen]; exact hk) (fun j hj hjk => by rw [hget]; exact h2 j hjk) (by rw [hget, he]; exact hne), hget, he]
    have hgood : slotE k (g.at k) = 0 → ∀ j, j < k + 1 → slotE j (g.at j) = 0 := fun he j hj => by
      by_cases e : j = k
      · subst e; exact he
      · exact h2 j (by omega)
    refine LoadV.cell0 hc ?_
    (conv => whnf)
    cases hv : seq (g.at k).v ⟨#[]⟩
    · have hE : slotE k (g.at k) = if labE (g.at k).v ≠ 0 then 210 else 0 := by rw [slotE, if_pos hv]
      (conv => whnf)
      (repeat' (first
      | (refine Obl.mk ⟨by omega, by omega⟩ ?_; conv => whnf)
      | (refine Obl.mk ⟨by omega, by omega, ⟨by omega, by omega⟩⟩ ?_; conv => whnf)
      | ((with_reducible refine Tst.tt ?_); conv => whnf)
      | ((with_reducible refine Tst.ff ?_); conv => whnf)
      | ((with_reducible refine Tst.dec (fun _ => ?_) (fun _ => ?_)) <;> first | (exfalso; omega) | (conv => whnf))
      | ((with_reducible refine Tst.not ?_))
      | (refine Wit.conv ⟨by omega, by omega⟩ ?_; conv => whnf)
      | ((with_reducible refine IdxV.nat (by omega) ?_); conv => whnf)
      | ((with_reducible refine SameW.mk rfl ?_); conv => whnf)
      | (refine LoadV.mem (i := 0) (by assumption) rfl rfl ?_; conv => whnf)
      | (refine LoadV.mem (i := 1) (by assumption) rfl rfl ?_; conv => whnf)
      | (refine LoadV.mem (i := 2) (by assumption) rfl rfl ?_; conv => whnf)
      | ((with_reducible refine Tst.beqT ?_))
      | ((with_reducible refine Tst.beqF ?_))
      | (refine Tst.yes rfl ?_; conv => whnf)
      | (refine Tst.no rfl ?_; conv => whnf)))
      refine LoadV.cell0 hc ?_
      (conv => whnf)
      refine CallV.of (refLabel_any (g.at k).v (by have := hs.v; omega) w5) ?_
      rintro v w6 ⟨rfl, he6⟩
      (conv => whnf)
      (repeat' (first
      | (refine Obl.mk ⟨by omega, by omega⟩ ?_; conv => whnf)
      | (refine Obl.mk ⟨by omega, by omega, ⟨by omega, by omega⟩⟩ ?_; conv => whnf)
      | ((with_reducible refine Tst.tt ?_); conv => whnf)
      | ((with_reducible refine Tst.ff ?_); conv => whnf)
      | ((with_reducible refine Tst.dec (fun _ => ?_) (fun _ => ?_)) <;> first | (exfalso; omega) | (conv => whnf))
      | ((with_reducible refine Tst.not ?_))
      | (refine Wit.conv ⟨by omega, by omega⟩ ?_; conv => whnf)
      | ((with_reducible refine IdxV.nat (by omega) ?_); conv => whnf)
      | ((with_reducible refine SameW.mk rfl ?_); conv => whnf)
      | (refine LoadV.mem (i := 0) (by assumption) rfl rfl ?_; conv => whnf)
      | (refine LoadV.mem (i := 1) (by assumption) rfl rfl ?_; conv => whnf)
      | (refine LoadV.mem (i := 2) (by assumption) rfl rfl ?_; conv => whnf)
      | ((with_reducible refine Tst.beqT ?_))
      | ((with_reducible refine Tst.beqF ?_))
      | (refine Tst.yes rfl ?_; conv => whnf)
      | (refine Tst.no rfl ?_; conv => whnf)))
      · exact ⟨by rw [hbad 210 (by rw [hE, if_pos (by omega)]) (by decide)]; rfl, hm.ext.trans (h3.trans he6)⟩
      · exact ⟨k + 1, ⟨rfl, rfl, rfl, rfl, trivial⟩, ⟨by omega, hgood (by rw [hE, if_neg (by omega)]), h3.trans he6⟩, by omega⟩
    · have hE : slotE k (g.at k) = if canB k (g.at k).t = false then 70 else if (g.at k).t.kind = 0 then 0 else termE (g.at k).t := by rw [slotE, if_neg (by rw [hv]; simp)]
      (conv => whnf)
      (repeat' (first
      | (refine Obl.mk ⟨by omega, by omega⟩ ?_; conv => whnf)
      | (refine Obl.mk ⟨by omega, by omega, ⟨by omega, by omega⟩⟩ ?_; conv => whnf)
      | ((with_reducible refine Tst.tt ?_); conv => whnf)
      | ((with_reducible refine Tst.ff ?_); conv => whnf)
      | ((with_reducible refine Tst.dec (fun _ => ?_) (fun _ => ?_)) <;> first | (exfalso; omega) | (conv => whnf))
      | ((with_reducible refine Tst.not ?_))
      | (refine Wit.conv ⟨by omega, by omega⟩ ?_; conv => whnf)
      | ((with_reducible refine IdxV.nat (by omega) ?_); conv => whnf)
      | ((with_reducible refine SameW.mk rfl ?_); conv => whnf)
      | (refine LoadV.mem (i := 0) (by assumption) rfl rfl ?_; conv => whnf)
      | (refine LoadV.mem (i := 1) (by assumption) rfl rfl ?_; conv => whnf)
      | (refine LoadV.mem (i := 2) (by assumption) rfl rfl ?_; conv => whnf)
      | ((with_reducible refine Tst.beqT ?_))
      | ((with_reducible refine Tst.beqF ?_))
      | (refine Tst.yes rfl ?_; conv => whnf)
      | (refine Tst.no rfl ?_; conv => whnf)))
      have hct := CellsAt.tail hc
      refine LoadA.cells hct rfl ?_
      (conv => whnf)
      refine CallV.of (can_any k (g.at k).t w5) ?_
      rintro v w6 ⟨rfl, he6⟩
      have hct6 := hct.ext he6
      cases hcan : canB k (g.at k).t
      · (conv => whnf)
        (repeat' (first
      | (refine Obl.mk ⟨by omega, by omega⟩ ?_; conv => whnf)
      | (refine Obl.mk ⟨by omega, by omega, ⟨by omega, by omega⟩⟩ ?_; conv => whnf)
      | ((with_reducible refine Tst.tt ?_); conv => whnf)
      | ((with_reducible refine Tst.ff ?_); conv => whnf)
      | ((with_reducible refine Tst.dec (fun _ => ?_) (fun _ => ?_)) <;> first | (exfalso; omega) | (conv => whnf))
      | ((with_reducible refine Tst.not ?_))
      | (refine Wit.conv ⟨by omega, by omega⟩ ?_; conv => whnf)
      | ((with_reducible refine IdxV.nat (by omega) ?_); conv => whnf)
      | ((with_reducible refine SameW.mk rfl ?_); conv => whnf)
      | (refine LoadV.mem (i := 0) (by assumption) rfl rfl ?_; conv => whnf)
      | (refine LoadV.mem (i := 1) (by assumption) rfl rfl ?_; conv => whnf)
      | (refine LoadV.mem (i := 2) (by assumption) rfl rfl ?_; conv => whnf)
      | ((with_reducible refine Tst.beqT ?_))
      | ((with_reducible refine Tst.beqF ?_))
      | (refine Tst.yes rfl ?_; conv => whnf)
      | (refine Tst.no rfl ?_; conv => whnf)))
        exact ⟨by rw [hbad 70 (by rw [hE, if_pos hcan]) (by decide)]; rfl, hm.ext.trans (h3.trans he6)⟩
      · (conv => whnf)
        (repeat' (first
      | (refine Obl.mk ⟨by omega, by omega⟩ ?_; conv => whnf)
      | (refine Obl.mk ⟨by omega, by omega, ⟨by omega, by omega⟩⟩ ?_; conv => whnf)
      | ((with_reducible refine Tst.tt ?_); conv => whnf)
      | ((with_reducible refine Tst.ff ?_); conv => whnf)
      | ((with_reducible refine Tst.dec (fun _ => ?_) (fun _ => ?_)) <;> first | (exfalso; omega) | (conv => whnf))
      | ((with_reducible refine Tst.not ?_))
      | (refine Wit.conv ⟨by omega, by omega⟩ ?_; conv => whnf)
      | ((with_reducible refine IdxV.nat (by omega) ?_); conv => whnf)
      | ((with_reducible refine SameW.mk rfl ?_); conv => whnf)
      | (refine LoadV.mem (i := 0) (by assumption) rfl rfl ?_; conv => whnf)
      | (refine LoadV.mem (i := 1) (by assumption) rfl rfl ?_; conv => whnf)
      | (refine LoadV.mem (i := 2) (by assumption) rfl rfl ?_; conv => whnf)
      | ((with_reducible refine Tst.beqT ?_))
      | ((with_reducible refine Tst.beqF ?_))
      | (refine Tst.yes rfl ?_; conv => whnf)
      | (refine Tst.no rfl ?_; conv => whnf)))
        refine LoadV.cell0 hct6 ?_
        (conv => whnf)
        (repeat' (first
      | (refine Obl.mk ⟨by omega, by omega⟩ ?_; conv => whnf)
      | (refine Obl.mk ⟨by omega, by omega, ⟨by omega, by omega⟩⟩ ?_; conv => whnf)
      | ((with_reducible refine Tst.tt ?_); conv => whnf)
      | ((with_reducible refine Tst.ff ?_); conv => whnf)
      | ((with_reducible refine Tst.dec (fun _ => ?_) (fun _ => ?_)) <;> first | (exfalso; omega) | (conv => whnf))
      | ((with_reducible refine Tst.not ?_))
      | (refine Wit.conv ⟨by omega, by omega⟩ ?_; conv => whnf)
      | ((with_reducible refine IdxV.nat (by omega) ?_); conv => whnf)
      | ((with_reducible refine SameW.mk rfl ?_); conv => whnf)
      | (refine LoadV.mem (i := 0) (by assumption) rfl rfl ?_; conv => whnf)
      | (refine LoadV.mem (i := 1) (by assumption) rfl rfl ?_; conv => whnf)
      | (refine LoadV.mem (i := 2) (by assumption) rfl rfl ?_; conv => whnf)
      | ((with_reducible refine Tst.beqT ?_))
      | ((with_reducible refine Tst.beqF ?_))
      | (refine Tst.yes rfl ?_; conv => whnf)
      | (refine Tst.no rfl ?_; conv => whnf)))
        · refine LoadA.cells hct6 rfl ?_
          (conv => whnf)
          refine CallV.of (refTermCheck_any (g.at k).t hs.t w6) ?_
          rintro v w7 ⟨rfl, he7⟩
          (conv => whnf)
          (repeat' (first
      | (refine Obl.mk ⟨by omega, by omega⟩ ?_; conv => whnf)
      | (refine Obl.mk ⟨by omega, by omega, ⟨by omega, by omega⟩⟩ ?_; conv => whnf)
      | ((with_reducible refine Tst.tt ?_); conv => whnf)
      | ((with_reducible refine Tst.ff ?_); conv => whnf)
      | ((with_reducible refine Tst.dec (fun _ => ?_) (fun _ => ?_)) <;> first | (exfalso; omega) | (conv => whnf))
      | ((with_reducible refine Tst.not ?_))
      | (refine Wit.conv ⟨by omega, by omega⟩ ?_; conv => whnf)
      | ((with_reducible refine IdxV.nat (by omega) ?_); conv => whnf)
      | ((with_reducible refine SameW.mk rfl ?_); conv => whnf)
      | (refine LoadV.mem (i := 0) (by assumption) rfl rfl ?_; conv => whnf)
      | (refine LoadV.mem (i := 1) (by assumption) rfl rfl ?_; conv => whnf)
      | (refine LoadV.mem (i := 2) (by assumption) rfl rfl ?_; conv => whnf)
      | ((with_reducible refine Tst.beqT ?_))
      | ((with_reducible refine Tst.beqF ?_))
      | (refine Tst.yes rfl ?_; conv => whnf)
      | (refine Tst.no rfl ?_; conv => whnf)))
          · exact ⟨by rw [hbad (termE (g.at k).t) (by rw [hE, if_neg (by rw [hcan]; simp), if_neg (by omega)]) (by omega)], hm.ext.trans (h3.trans (he6.trans he7))⟩
          · exact ⟨k + 1, ⟨rfl, rfl, rfl, rfl, trivial⟩, ⟨by omega, hgood (by rw [hE, if_neg (by rw [hcan]; simp), if_neg (by omega)]; omega), h3.trans (he6.trans he7)⟩, by omega⟩
        · exact ⟨k + 1, ⟨rfl, rfl, rfl, rfl, trivial⟩, ⟨by omega, hgood (by rw [hE, if_neg (by rw [hcan]; simp), if_pos (by omega)]), h3.trans he6⟩, by omega⟩
  · refine ⟨?_, hm.ext.trans h3⟩
    rw [goalE, firstE_zero fun j hj => by rw [hget]; exact h2 j (by rw [hlen] at hj; omega)]
    rfl
end Go.Proofs.YtajgbepghniciaaGreatDoor
