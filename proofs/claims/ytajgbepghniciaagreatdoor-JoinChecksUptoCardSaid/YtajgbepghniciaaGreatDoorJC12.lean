/- Lemmas and contracts of functions on the way to the law's card (part 12 of 17). -/
import Derived.Test.YtajgbepghniciaaGreatDoorJC11
namespace Go.Proofs.YtajgbepghniciaaGreatDoor
open Go.RowKit V
set_option maxRecDepth 100000

/-- a term -/
structure TM where
  kind : Int
  text : ByteArray
  type : ByteArray
  lang : ByteArray
def encT (t : TM) : List Value := [.int .i64 t.kind, .string t.text, .string t.type, .string t.lang]
def termV (t : TM) : Value := .agg #[.int .i64 t.kind, .string t.text, .string t.type, .string t.lang]
structure TermOk (t : TM) : Prop where
  kind : InR .i64 t.kind
  text : t.text.size ≤ 1048576
  type : t.type.size ≤ 1048576
  lang : t.lang.size ≤ 1048576
def tagged : ByteArray := ⟨#[104, 116, 116, 112, 58, 47, 47, 119, 119, 119, 46, 119, 51, 46, 111, 114, 103, 47, 49, 57, 57, 57, 47, 48, 50, 47, 50, 50, 45, 114, 100, 102, 45, 115, 121, 110, 116, 97, 120, 45, 110, 115, 35, 108, 97, 110, 103, 83, 116, 114, 105, 110, 103]⟩
open Classical in
noncomputable def litE (t : TM) : Nat :=
  if 65536 < t.text.size then 2 else if scal t.text.data.toList = none then 40 else if iriE t.type ≠ 0 then iriE t.type
  else if seq t.lang ⟨#[]⟩ = false ∧ 65536 < t.lang.size then 2
  else if seq t.lang ⟨#[]⟩ = false ∧ (tagE (partsS t.lang) ≠ 0 ∨ seq (lowS t.lang) t.lang = false) then 61
  else if (!seq t.lang ⟨#[]⟩) ≠ seq t.type tagged then 71 else 0
noncomputable def termE (t : TM) : Nat :=
  if t.kind = 1 ∨ t.kind = 2 then (if seq t.type ⟨#[]⟩ = false ∨ seq t.lang ⟨#[]⟩ = false then 70 else if t.kind = 1 then iriE t.text else if 65536 < t.text.size then 2 else labE t.text)
  else if t.kind = 3 then litE t else 70
theorem tagE_cases (l : List ByteArray) : tagE l = 0 ∨ tagE l = 61 := by
  by_cases h : tagP l
  · exact .inl (tagE_ok h)
  · exact .inr (tagE_no h)
theorem or_any (a : Int) (b : Nat) (w : World) (hb : w.heap[b]? = some (.cells #[.int .i64 a, .int .i64 61] 26 (0, 0))) :
    Gv Tryz.prog 150 [.slice (some ⟨b, 0, none⟩) 2 2] w fun v w' => v = .int .i64 (if a = 0 then 61 else a) ∧ w' = w := by
  refine gv (by kernel_rfl) Tryz.func150 rfl Tryz.ntmps150 rfl ?_; conv => whnf
  refine loopV (fun i : Nat => [(3, .int .i64 0), (6, .slice (some ⟨b, 0, none⟩) 2 2), (7, .int .i64 2), (8, .int .i64 i)]) (fun i w1 => i ≤ 1 ∧ (i = 1 → a = 0) ∧ w1 = w) (fun i => 2 - i) 0 ⟨rfl, rfl, rfl, rfl, trivial⟩ ⟨by omega, by omega, rfl⟩ ?_
  rintro i w1 ρ' ⟨h1, h2, rfl⟩
  obtain rfl | rfl : i = 0 ∨ i = 1 := by omega
  · (conv => whnf)
    (repeat' (first
      | (refine Obl.mk ⟨by omega, by omega⟩ ?_; conv => whnf)
      | (refine Obl.mk ⟨by omega, by omega, ⟨by omega, by omega⟩⟩ ?_; conv => whnf)
      | ((with_reducible refine Tst.tt ?_); conv => whnf)
      | ((with_reducible refine Tst.ff ?_); conv => whnf)
      | ((with_reducible refine Tst.dec (fun _ => ?_) (fun _ => ?_)) <;> first | (exfalso; omega) | (conv => whnf))
      | ((with_reducible refine Tst.not ?_))
      | (refine Wit.conv ⟨by omega, by omega⟩ ?_; conv => whnf)
      | ((with_reducible refine IdxV.nat (by omega) ?_); conv => whnf)
      | ((with_reducible refine SameW.mk rfl ?_); conv => whnf)
      | (refine LoadV.mem (i := 0) (by assumption) rfl rfl ?_; conv => whnf)
      | (refine LoadV.mem (i := 1) (by assumption) rfl rfl ?_; conv => whnf)
      | (refine LoadV.mem (i := 2) (by assumption) rfl rfl ?_; conv => whnf)
      | ((with_reducible refine Tst.beqT ?_))
      | ((with_reducible refine Tst.beqF ?_))
      | (refine Tst.yes rfl ?_; conv => whnf)
      | (refine Tst.no rfl ?_; conv => whnf)))
    refine ElemV.own1 0 rfl (by omega) ?_
    (conv => whnf)
    refine LoadV.of (by rw [cell_heap hb]; rfl) ?_
    (conv => whnf)
    (repeat' (first
      | (refine Obl.mk ⟨by omega, by omega⟩ ?_; conv => whnf)
      | (refine Obl.mk ⟨by omega, by omega, ⟨by omega, by omega⟩⟩ ?_; conv => whnf)
      | ((with_reducible refine Tst.tt ?_); conv => whnf)
      | ((with_reducible refine Tst.ff ?_); conv => whnf)
      | ((with_reducible refine Tst.dec (fun _ => ?_) (fun _ => ?_)) <;> first | (exfalso; omega) | (conv => whnf))
      | ((with_reducible refine Tst.not ?_))
      | (refine Wit.conv ⟨by omega, by omega⟩ ?_; conv => whnf)
      | ((with_reducible refine IdxV.nat (by omega) ?_); conv => whnf)
      | ((with_reducible refine SameW.mk rfl ?_); conv => whnf)
      | (refine LoadV.mem (i := 0) (by assumption) rfl rfl ?_; conv => whnf)
      | (refine LoadV.mem (i := 1) (by assumption) rfl rfl ?_; conv => whnf)
      | (refine LoadV.mem (i := 2) (by assumption) rfl rfl ?_; conv => whnf)
      | ((with_reducible refine Tst.beqT ?_))
      | ((with_reducible refine Tst.beqF ?_))
      | (refine Tst.yes rfl ?_; conv => whnf)
      | (refine Tst.no rfl ?_; conv => whnf)))
    · exact ⟨by rw [if_neg (by omega)], rfl⟩
    · exact ⟨1, ⟨rfl, rfl, rfl, rfl, trivial⟩, ⟨by omega, fun _ => by omega, rfl⟩, by omega⟩
  · (conv => whnf)
    (repeat' (first
      | (refine Obl.mk ⟨by omega, by omega⟩ ?_; conv => whnf)
      | (refine Obl.mk ⟨by omega, by omega, ⟨by omega, by omega⟩⟩ ?_; conv => whnf)
      | ((with_reducible refine Tst.tt ?_); conv => whnf)
      | ((with_reducible refine Tst.ff ?_); conv => whnf)
      | ((with_reducible refine Tst.dec (fun _ => ?_) (fun _ => ?_)) <;> first | (exfalso; omega) | (conv => whnf))
      | ((with_reducible refine Tst.not ?_))
      | (refine Wit.conv ⟨by omega, by omega⟩ ?_; conv => whnf)
      | ((with_reducible refine IdxV.nat (by omega) ?_); conv => whnf)
      | ((with_reducible refine SameW.mk rfl ?_); conv => whnf)
      | (refine LoadV.mem (i := 0) (by assumption) rfl rfl ?_; conv => whnf)
      | (refine LoadV.mem (i := 1) (by assumption) rfl rfl ?_; conv => whnf)
      | (refine LoadV.mem (i := 2) (by assumption) rfl rfl ?_; conv => whnf)
      | ((with_reducible refine Tst.beqT ?_))
      | ((with_reducible refine Tst.beqF ?_))
      | (refine Tst.yes rfl ?_; conv => whnf)
      | (refine Tst.no rfl ?_; conv => whnf)))
    refine ElemV.own1 1 rfl (by omega) ?_
    (conv => whnf)
    refine LoadV.of (by rw [cell_heap hb]; rfl) ?_
    (conv => whnf)
    (repeat' (first
      | (refine Obl.mk ⟨by omega, by omega⟩ ?_; conv => whnf)
      | (refine Obl.mk ⟨by omega, by omega, ⟨by omega, by omega⟩⟩ ?_; conv => whnf)
      | ((with_reducible refine Tst.tt ?_); conv => whnf)
      | ((with_reducible refine Tst.ff ?_); conv => whnf)
      | ((with_reducible refine Tst.dec (fun _ => ?_) (fun _ => ?_)) <;> first | (exfalso; omega) | (conv => whnf))
      | ((with_reducible refine Tst.not ?_))
      | (refine Wit.conv ⟨by omega, by omega⟩ ?_; conv => whnf)
      | ((with_reducible refine IdxV.nat (by omega) ?_); conv => whnf)
      | ((with_reducible refine SameW.mk rfl ?_); conv => whnf)
      | (refine LoadV.mem (i := 0) (by assumption) rfl rfl ?_; conv => whnf)
      | (refine LoadV.mem (i := 1) (by assumption) rfl rfl ?_; conv => whnf)
      | (refine LoadV.mem (i := 2) (by assumption) rfl rfl ?_; conv => whnf)
      | ((with_reducible refine Tst.beqT ?_))
      | ((with_reducible refine Tst.beqF ?_))
      | (refine Tst.yes rfl ?_; conv => whnf)
      | (refine Tst.no rfl ?_; conv => whnf)))
    exact ⟨by rw [if_pos (h2 rfl)], rfl⟩
theorem literal_any (t : TM) (ht : TermOk t) (w : World) (hM : MaxLenAt w) : Gv Tryz.prog 87 [termV t] w fun v w' => v = .int .i64 (litE t) ∧ Ext w w' := by
  obtain ⟨h1, h2, h3, h4⟩ := ht
  refine gv (by kernel_rfl) Tryz.func87 rfl Tryz.ntmps87 rfl ?_; conv => whnf
  refine NewV.mem (Mem.nil w) ?_
  intro b w1 hm
  (conv => whnf)
  (repeat' (first
      | (refine Obl.mk ⟨by omega, by omega⟩ ?_; conv => whnf)
      | (refine Obl.mk ⟨by omega, by omega, ⟨by omega, by omega⟩⟩ ?_; conv => whnf)
      | ((with_reducible refine Tst.tt ?_); conv => whnf)
      | ((with_reducible refine Tst.ff ?_); conv => whnf)
      | ((with_reducible refine Tst.dec (fun _ => ?_) (fun _ => ?_)) <;> first | (exfalso; omega) | (conv => whnf))
      | ((with_reducible refine Tst.not ?_))
      | (refine Wit.conv ⟨by omega, by omega⟩ ?_; conv => whnf)
      | ((with_reducible refine IdxV.nat (by omega) ?_); conv => whnf)
      | ((with_reducible refine SameW.mk rfl ?_); conv => whnf)
      | (refine LoadV.mem (i := 0) (by assumption) rfl rfl ?_; conv => whnf)
      | (refine LoadV.mem (i := 1) (by assumption) rfl rfl ?_; conv => whnf)
      | (refine LoadV.mem (i := 2) (by assumption) rfl rfl ?_; conv => whnf)
      | ((with_reducible refine Tst.beqT ?_))
      | ((with_reducible refine Tst.beqF ?_))
      | (refine Tst.yes rfl ?_; conv => whnf)
      | (refine Tst.no rfl ?_; conv => whnf)))
  · exact ⟨by rw [litE, if_pos (show 65536 < t.text.size by omega)]; rfl, hm.ext⟩
  · refine CallV.of (check_any t.text (by omega) w1) ?_
    rintro v w2 ⟨⟨i, rfl, hi, hi1, hi2⟩, rfl⟩
    have n1 : ¬ 65536 < t.text.size := by omega
    (conv => whnf)
    (repeat' (first
      | (refine Obl.mk ⟨by omega, by omega⟩ ?_; conv => whnf)
      | (refine Obl.mk ⟨by omega, by omega, ⟨by omega, by omega⟩⟩ ?_; conv => whnf)
      | ((with_reducible refine Tst.tt ?_); conv => whnf)
      | ((with_reducible refine Tst.ff ?_); conv => whnf)
      | ((with_reducible refine Tst.dec (fun _ => ?_) (fun _ => ?_)) <;> first | (exfalso; omega) | (conv => whnf))
      | ((with_reducible refine Tst.not ?_))
      | (refine Wit.conv ⟨by omega, by omega⟩ ?_; conv => whnf)
      | ((with_reducible refine IdxV.nat (by omega) ?_); conv => whnf)
      | ((with_reducible refine SameW.mk rfl ?_); conv => whnf)
      | (refine LoadV.mem (i := 0) (by assumption) rfl rfl ?_; conv => whnf)
      | (refine LoadV.mem (i := 1) (by assumption) rfl rfl ?_; conv => whnf)
      | (refine LoadV.mem (i := 2) (by assumption) rfl rfl ?_; conv => whnf)
      | ((with_reducible refine Tst.beqT ?_))
      | ((with_reducible refine Tst.beqF ?_))
      | (refine Tst.yes rfl ?_; conv => whnf)
      | (refine Tst.no rfl ?_; conv => whnf)))
    · have hs : scal t.text.data.toList = none := Classical.byContradiction fun h => by have := hi1 h; omega
      exact ⟨by rw [litE, if_neg n1, if_pos hs]; rfl, hm.ext⟩
    · have n2 : ¬ scal t.text.data.toList = none := fun h => by have := hi2 h; omega
      refine CallV.of (iriCheck_any t.type (by omega) w2) ?_
      rintro v w3 ⟨rfl, he3⟩
      have hm := hm.call he3
      have eL : litE t = if iriE t.type ≠ 0 then iriE t.type else if seq t.lang ⟨#[]⟩ = false ∧ 65536 < t.lang.size then 2
          else if seq t.lang ⟨#[]⟩ = false ∧ (tagE (partsS t.lang) ≠ 0 ∨ seq (lowS t.lang) t.lang = false) then 61 else if (!seq t.lang ⟨#[]⟩) ≠ seq t.type tagged then 71 else 0 := by rw [litE, if_neg n1, if_neg n2]
      rw [eL]
      (conv => whnf)
      (repeat' (first
      | (refine Obl.mk ⟨by omega, by omega⟩ ?_; conv => whnf)
      | (refine Obl.mk ⟨by omega, by omega, ⟨by omega, by omega⟩⟩ ?_; conv => whnf)
      | ((with_reducible refine Tst.tt ?_); conv => whnf)
      | ((with_reducible refine Tst.ff ?_); conv => whnf)
      | ((with_reducible refine Tst.dec (fun _ => ?_) (fun _ => ?_)) <;> first | (exfalso; omega) | (conv => whnf))
      | ((with_reducible refine Tst.not ?_))
      | (refine Wit.conv ⟨by omega, by omega⟩ ?_; conv => whnf)
      | ((with_reducible refine IdxV.nat (by omega) ?_); conv => whnf)
      | ((with_reducible refine SameW.mk rfl ?_); conv => whnf)
      | (refine LoadV.mem (i := 0) (by assumption) rfl rfl ?_; conv => whnf)
      | (refine LoadV.mem (i := 1) (by assumption) rfl rfl ?_; conv => whnf)
      | (refine LoadV.mem (i := 2) (by assumption) rfl rfl ?_; conv => whnf)
      | ((with_reducible refine Tst.beqT ?_))
      | ((with_reducible refine Tst.beqF ?_))
      | (refine Tst.yes rfl ?_; conv => whnf)
      | (refine Tst.no rfl ?_; conv => whnf)))
      · exact ⟨by rw [if_pos (by omega)], hm.ext⟩
      · rw [if_neg (by omega)]
        cases hl : seq t.lang ⟨#[]⟩
        · (conv => whnf)
          (repeat' (first
      | (refine Obl.mk ⟨by omega, by omega⟩ ?_; conv => whnf)
      | (refine Obl.mk ⟨by omega, by omega, ⟨by omega, by omega⟩⟩ ?_; conv => whnf)
      | ((with_reducible refine Tst.tt ?_); conv => whnf)
      | ((with_reducible refine Tst.ff ?_); conv => whnf)
      | ((with_reducible refine Tst.dec (fun _ => ?_) (fun _ => ?_)) <;> first | (exfalso; omega) | (conv => whnf))
      | ((with_reducible refine Tst.not ?_))
      | (refine Wit.conv ⟨by omega, by omega⟩ ?_; conv => whnf)
      | ((with_reducible refine IdxV.nat (by omega) ?_); conv => whnf)
      | ((with_reducible refine SameW.mk rfl ?_); conv => whnf)
      | (refine LoadV.mem (i := 0) (by assumption) rfl rfl ?_; conv => whnf)
      | (refine LoadV.mem (i := 1) (by assumption) rfl rfl ?_; conv => whnf)
      | (refine LoadV.mem (i := 2) (by assumption) rfl rfl ?_; conv => whnf)
      | ((with_reducible refine Tst.beqT ?_))
      | ((with_reducible refine Tst.beqF ?_))
      | (refine Tst.yes rfl ?_; conv => whnf)
      | (refine Tst.no rfl ?_; conv => whnf)))
          · exact ⟨by rw [if_pos ⟨rfl, by omega⟩]; rfl, hm.ext⟩
          · rw [if_neg (show ¬ (false = false ∧ 65536 < t.lang.size) by omega)]
            refine CallV.of (tag_any t.lang (by omega) w3 (hM.ext hm.ext)) ?_
            rintro v w4 ⟨⟨c0, c1, c2, c3, c4, c5, c6, hc, rfl⟩, he4⟩
            have hm4 := hm.call he4
            obtain ⟨E, hE⟩ : ∃ E, E = tagE (partsS t.lang) := ⟨_, rfl⟩
            have hE2 := tagE_cases (partsS t.lang)
            rw [← hE] at hE2 ⊢
            (conv => whnf)
            refine NewV.mem hm4 ?_
            intro tb w5 hm5
            (conv => whnf)
            refine StoreA.mem hm5 (i := 0) rfl (Nat.le_refl 7) hc ?_
            intro w6 hm6
            (conv => whnf)
            have hlang : w6.cell? ⟨b, 3, none⟩ = some (.string t.lang) := by rw [cell_heap (hm6.get (List.mem_of_getElem? (i := 1) rfl))]; rfl
            rcases hE2 with rfl | rfl
            · refine DrawV.free rfl (by kernel_rfl) ?_
              (conv => whnf)
              (apply StepD.still; (· intro wd hd; (conv => whnf); (repeat (intro _ _; (conv => whnf))); (first | exact ⟨Ext.refl _, rfl⟩ | ((repeat' (first | (refine Obl.mk ⟨by omega, by omega⟩ ?_; conv => whnf) | (refine Obl.mk ⟨by omega, by omega, ⟨by omega, by omega⟩⟩ ?_; conv => whnf) | ((with_reducible refine Tst.tt ?_); conv => whnf) | ((with_reducible refine Tst.ff ?_); conv => whnf) | ((with_reducible refine Tst.dec (fun _ => ?_) (fun _ => ?_)) <;> first | (exfalso; omega) | (conv => whnf)) | ((with_reducible refine Tst.not ?_)) | (refine Wit.conv ⟨by omega, by omega⟩ ?_; conv => whnf) | ((with_reducible refine IdxV.nat (by omega) ?_); conv => whnf) | ((with_reducible refine SameW.mk rfl ?_); conv => whnf) | ((with_reducible refine Tst.beqT ?_)) | ((with_reducible refine Tst.beqF ?_)) | (refine Tst.yes rfl ?_; conv => whnf) | (refine Tst.no rfl ?_; conv => whnf))); exact ⟨Ext.refl _, rfl⟩))); (conv => whnf))
              (apply StepD.still; (· intro wd hd; (conv => whnf); (repeat (intro _ _; (conv => whnf))); (first | exact ⟨Ext.refl _, rfl⟩ | ((repeat' (first | (refine Obl.mk ⟨by omega, by omega⟩ ?_; conv => whnf) | (refine Obl.mk ⟨by omega, by omega, ⟨by omega, by omega⟩⟩ ?_; conv => whnf) | ((with_reducible refine Tst.tt ?_); conv => whnf) | ((with_reducible refine Tst.ff ?_); conv => whnf) | ((with_reducible refine Tst.dec (fun _ => ?_) (fun _ => ?_)) <;> first | (exfalso; omega) | (conv => whnf)) | ((with_reducible refine Tst.not ?_)) | (refine Wit.conv ⟨by omega, by omega⟩ ?_; conv => whnf) | ((with_reducible refine IdxV.nat (by omega) ?_); conv => whnf) | ((with_reducible refine SameW.mk rfl ?_); conv => whnf) | ((with_reducible refine Tst.beqT ?_)) | ((with_reducible refine Tst.beqF ?_)) | (refine Tst.yes rfl ?_; conv => whnf) | (refine Tst.no rfl ?_; conv => whnf))); exact ⟨Ext.refl _, rfl⟩))); (conv => whnf))
              (apply StepD.still; (· intro wd hd; (conv => whnf); (repeat (intro _ _; (conv => whnf))); (first | exact ⟨Ext.refl _, rfl⟩ | ((repeat' (first | (refine Obl.mk ⟨by omega, by omega⟩ ?_; conv => whnf) | (refine Obl.mk ⟨by omega, by omega, ⟨by omega, by omega⟩⟩ ?_; conv => whnf) | ((with_reducible refine Tst.tt ?_); conv => whnf) | ((with_reducible refine Tst.ff ?_); conv => whnf) | ((with_reducible refine Tst.dec (fun _ => ?_) (fun _ => ?_)) <;> first | (exfalso; omega) | (conv => whnf)) | ((with_reducible refine Tst.not ?_)) | (refine Wit.conv ⟨by omega, by omega⟩ ?_; conv => whnf) | ((with_reducible refine IdxV.nat (by omega) ?_); conv => whnf) | ((with_reducible refine SameW.mk rfl ?_); conv => whnf) | ((with_reducible refine Tst.beqT ?_)) | ((with_reducible refine Tst.beqF ?_)) | (refine Tst.yes rfl ?_; conv => whnf) | (refine Tst.no rfl ?_; conv => whnf))); exact ⟨Ext.refl _, rfl⟩))); (conv => whnf))
              (apply StepD.still; (· intro wd hd; (conv => whnf); (repeat (intro _ _; (conv => whnf))); (first | exact ⟨Ext.refl _, rfl⟩ | ((repeat' (first | (refine Obl.mk ⟨by omega, by omega⟩ ?_; conv => whnf) | (refine Obl.mk ⟨by omega, by omega, ⟨by omega, by omega⟩⟩ ?_; conv => whnf) | ((with_reducible refine Tst.tt ?_); conv => whnf) | ((with_reducible refine Tst.ff ?_); conv => whnf) | ((with_reducible refine Tst.dec (fun _ => ?_) (fun _ => ?_)) <;> first | (exfalso; omega) | (conv => whnf)) | ((with_reducible refine Tst.not ?_)) | (refine Wit.conv ⟨by omega, by omega⟩ ?_; conv => whnf) | ((with_reducible refine IdxV.nat (by omega) ?_); conv => whnf) | ((with_reducible refine SameW.mk rfl ?_); conv => whnf) | ((with_reducible refine Tst.beqT ?_)) | ((with_reducible refine Tst.beqF ?_)) | (refine Tst.yes rfl ?_; conv => whnf) | (refine Tst.no rfl ?_; conv => whnf))); exact ⟨Ext.refl _, rfl⟩))); (conv => whnf))
              (apply StepD.still; (· intro wd hd; (conv => whnf); (repeat' (first | (refine Obl.mk ⟨by omega, by omega⟩ ?_; conv => whnf) | (refine Obl.mk ⟨by omega, by omega, ⟨by omega, by omega⟩⟩ ?_; conv => whnf) | ((with_reducible refine Tst.tt ?_); conv => whnf) | ((with_reducible refine Tst.ff ?_); conv => whnf) | ((with_reducible refine Tst.dec (fun _ => ?_) (fun _ => ?_)) <;> first | (exfalso; omega) | (conv => whnf)) | ((with_reducible refine Tst.not ?_)) | (refine Wit.conv ⟨by omega, by omega⟩ ?_; conv => whnf) | ((with_reducible refine IdxV.nat (by omega) ?_); conv => whnf) | ((with_reducible refine SameW.mk rfl ?_); conv => whnf) | ((with_reducible refine Tst.beqT ?_)) | ((with_reducible refine Tst.beqF ?_)) | (refine Tst.yes rfl ?_; conv => whnf) | (refine Tst.no rfl ?_; conv => whnf))); refine LoadV.of (Ext.cell (Ext.trans (Ext.drew (Ext.refl _)) hd) hlang) ?_; (conv => whnf); exact ⟨Ext.refl _, rfl⟩); (conv => whnf))
              apply StepD.still
              · intro wd hd
                (conv => whnf)
                (repeat' (first
      | (refine Obl.mk ⟨by omega, by omega⟩ ?_; conv => whnf)
      | (refine Obl.mk ⟨by omega, by omega, ⟨by omega, by omega⟩⟩ ?_; conv => whnf)
      | ((with_reducible refine Tst.tt ?_); conv => whnf)
      | ((with_reducible refine Tst.ff ?_); conv => whnf)
      | ((with_reducible refine Tst.dec (fun _ => ?_) (fun _ => ?_)) <;> first | (exfalso; omega) | (conv => whnf))
      | ((with_reducible refine Tst.not ?_))
      | (refine Wit.conv ⟨by omega, by omega⟩ ?_; conv => whnf)
      | ((with_reducible refine IdxV.nat (by omega) ?_); conv => whnf)
      | ((with_reducible refine SameW.mk rfl ?_); conv => whnf)
      | (refine LoadV.mem (i := 0) (by assumption) rfl rfl ?_; conv => whnf)
      | (refine LoadV.mem (i := 1) (by assumption) rfl rfl ?_; conv => whnf)
      | (refine LoadV.mem (i := 2) (by assumption) rfl rfl ?_; conv => whnf)
      | ((with_reducible refine Tst.beqT ?_))
      | ((with_reducible refine Tst.beqF ?_))
      | (refine Tst.yes rfl ?_; conv => whnf)
      | (refine Tst.no rfl ?_; conv => whnf)))
                refine CallV.of (lower_any t.lang (by omega) wd) ?_
                rintro v w7 ⟨rfl, he7⟩
                exact ⟨he7, rfl⟩
              (conv => whnf)
              (apply StepD.still; (· intro wd hd; (conv => whnf); (repeat (intro _ _; (conv => whnf))); (first | exact ⟨Ext.refl _, rfl⟩ | ((repeat' (first | (refine Obl.mk ⟨by omega, by omega⟩ ?_; conv => whnf) | (refine Obl.mk ⟨by omega, by omega, ⟨by omega, by omega⟩⟩ ?_; conv => whnf) | ((with_reducible refine Tst.tt ?_); conv => whnf) | ((with_reducible refine Tst.ff ?_); conv => whnf) | ((with_reducible refine Tst.dec (fun _ => ?_) (fun _ => ?_)) <;> first | (exfalso; omega) | (conv => whnf)) | ((with_reducible refine Tst.not ?_)) | (refine Wit.conv ⟨by omega, by omega⟩ ?_; conv => whnf) | ((with_reducible refine IdxV.nat (by omega) ?_); conv => whnf) | ((with_reducible refine SameW.mk rfl ?_); conv => whnf) | ((with_reducible refine Tst.beqT ?_)) | ((with_reducible refine Tst.beqF ?_)) | (refine Tst.yes rfl ?_; conv => whnf) | (refine Tst.no rfl ?_; conv => whnf))); exact ⟨Ext.refl _, rfl⟩))); (conv => whnf))
              (apply StepD.still; (· intro wd hd; (conv => whnf); (repeat' (first | (refine Obl.mk ⟨by omega, by omega⟩ ?_; conv => whnf) | (refine Obl.mk ⟨by omega, by omega, ⟨by omega, by omega⟩⟩ ?_; conv => whnf) | ((with_reducible refine Tst.tt ?_); conv => whnf) | ((with_reducible refine Tst.ff ?_); conv => whnf) | ((with_reducible refine Tst.dec (fun _ => ?_) (fun _ => ?_)) <;> first | (exfalso; omega) | (conv => whnf)) | ((with_reducible refine Tst.not ?_)) | (refine Wit.conv ⟨by omega, by omega⟩ ?_; conv => whnf) | ((with_reducible refine IdxV.nat (by omega) ?_); conv => whnf) | ((with_reducible refine SameW.mk rfl ?_); conv => whnf) | ((with_reducible refine Tst.beqT ?_)) | ((with_reducible refine Tst.beqF ?_)) | (refine Tst.yes rfl ?_; conv => whnf) | (refine Tst.no rfl ?_; conv => whnf))); refine LoadV.of (Ext.cell (Ext.trans (Ext.drew (Ext.refl _)) hd) hlang) ?_; (conv => whnf); exact ⟨Ext.refl _, rfl⟩); (conv => whnf))
              (apply StepD.still; (· intro wd hd; (conv => whnf); (repeat (intro _ _; (conv => whnf))); (first | exact ⟨Ext.refl _, rfl⟩ | ((repeat' (first | (refine Obl.mk ⟨by omega, by omega⟩ ?_; conv => whnf) | (refine Obl.mk ⟨by omega, by omega, ⟨by omega, by omega⟩⟩ ?_; conv => whnf) | ((with_reducible refine Tst.tt ?_); conv => whnf) | ((with_reducible refine Tst.ff ?_); conv => whnf) | ((with_reducible refine Tst.dec (fun _ => ?_) (fun _ => ?_)) <;> first | (exfalso; omega) | (conv => whnf)) | ((with_reducible refine Tst.not ?_)) | (refine Wit.conv ⟨by omega, by omega⟩ ?_; conv => whnf) | ((with_reducible refine IdxV.nat (by omega) ?_); conv => whnf) | ((with_reducible refine SameW.mk rfl ?_); conv => whnf) | ((with_reducible refine Tst.beqT ?_)) | ((with_reducible refine Tst.beqF ?_)) | (refine Tst.yes rfl ?_; conv => whnf) | (refine Tst.no rfl ?_; conv => whnf))); exact ⟨Ext.refl _, rfl⟩))); (conv => whnf))
              (apply StepD.still; (· intro wd hd; (conv => whnf); (repeat (intro _ _; (conv => whnf))); (first | exact ⟨Ext.refl _, rfl⟩ | ((repeat' (first | (refine Obl.mk ⟨by omega, by omega⟩ ?_; conv => whnf) | (refine Obl.mk ⟨by omega, by omega, ⟨by omega, by omega⟩⟩ ?_; conv => whnf) | ((with_reducible refine Tst.tt ?_); conv => whnf) | ((with_reducible refine Tst.ff ?_); conv => whnf) | ((with_reducible refine Tst.dec (fun _ => ?_) (fun _ => ?_)) <;> first | (exfalso; omega) | (conv => whnf)) | ((with_reducible refine Tst.not ?_)) | (refine Wit.conv ⟨by omega, by omega⟩ ?_; conv => whnf) | ((with_reducible refine IdxV.nat (by omega) ?_); conv => whnf) | ((with_reducible refine SameW.mk rfl ?_); conv => whnf) | ((with_reducible refine Tst.beqT ?_)) | ((with_reducible refine Tst.beqF ?_)) | (refine Tst.yes rfl ?_; conv => whnf) | (refine Tst.no rfl ?_; conv => whnf))); exact ⟨Ext.refl _, rfl⟩))); (conv => whnf))
              intro wd hd
              (conv => whnf)
              have hm7 := hm6.drew.call hd
              have hlang7 : wd.cell? ⟨b, 3, none⟩ = some (.string t.lang) := by rw [cell_heap (hm7.get (List.mem_of_getElem? (i := 1) rfl))]; rfl
              have hty7 : wd.cell? ⟨b, 2, none⟩ = some (.string t.type) := by rw [cell_heap (hm7.get (List.mem_of_getElem? (i := 1) rfl))]; rfl
              cases hlo : seq (lowS t.lang) t.lang
              · rw [if_pos ⟨rfl, .inr rfl⟩]
                (conv => whnf)
                (repeat' (first
      | (refine Obl.mk ⟨by omega, by omega⟩ ?_; conv => whnf)
      | (refine Obl.mk ⟨by omega, by omega, ⟨by omega, by omega⟩⟩ ?_; conv => whnf)
      | ((with_reducible refine Tst.tt ?_); conv => whnf)
      | ((with_reducible refine Tst.ff ?_); conv => whnf)
      | ((with_reducible refine Tst.dec (fun _ => ?_) (fun _ => ?_)) <;> first | (exfalso; omega) | (conv => whnf))
      | ((with_reducible refine Tst.not ?_))
      | (refine Wit.conv ⟨by omega, by omega⟩ ?_; conv => whnf)
      | ((with_reducible refine IdxV.nat (by omega) ?_); conv => whnf)
      | ((with_reducible refine SameW.mk rfl ?_); conv => whnf)
      | (refine LoadV.mem (i := 0) (by assumption) rfl rfl ?_; conv => whnf)
      | (refine LoadV.mem (i := 1) (by assumption) rfl rfl ?_; conv => whnf)
      | (refine LoadV.mem (i := 2) (by assumption) rfl rfl ?_; conv => whnf)
      | ((with_reducible refine Tst.beqT ?_))
      | ((with_reducible refine Tst.beqF ?_))
      | (refine Tst.yes rfl ?_; conv => whnf)
      | (refine Tst.no rfl ?_; conv => whnf)))
                refine NewV.mem hm7 ?_
                intro ab w8 hm8
                (conv => whnf)
                refine CallV.of (or_any 0 ab w8 (hm8.get (List.mem_cons_self ..))) ?_
                rintro v w9 ⟨rfl, rfl⟩
                (conv => whnf)
                exact ⟨rfl, hm8.ext⟩
              · rw [if_neg (by simp)]
                (conv => whnf)
                (repeat' (first
      | (refine Obl.mk ⟨by omega, by omega⟩ ?_; conv => whnf)
      | (refine Obl.mk ⟨by omega, by omega, ⟨by omega, by omega⟩⟩ ?_; conv => whnf)
      | ((with_reducible refine Tst.tt ?_); conv => whnf)
      | ((with_reducible refine Tst.ff ?_); conv => whnf)
      | ((with_reducible refine Tst.dec (fun _ => ?_) (fun _ => ?_)) <;> first | (exfalso; omega) | (conv => whnf))
      | ((with_reducible refine Tst.not ?_))
      | (refine Wit.conv ⟨by omega, by omega⟩ ?_; conv => whnf)
      | ((with_reducible refine IdxV.nat (by omega) ?_); conv => whnf)
      | ((with_reducible refine SameW.mk rfl ?_); conv => whnf)
      | (refine LoadV.mem (i := 0) (by assumption) rfl rfl ?_; conv => whnf)
      | (refine LoadV.mem (i := 1) (by assumption) rfl rfl ?_; conv => whnf)
      | (refine LoadV.mem (i := 2) (by assumption) rfl rfl ?_; conv => whnf)
      | ((with_reducible refine Tst.beqT ?_))
      | ((with_reducible refine Tst.beqF ?_))
      | (refine Tst.yes rfl ?_; conv => whnf)
      | (refine Tst.no rfl ?_; conv => whnf)))
                show Tst ((!seq t.lang ⟨#[]⟩) == seq t.type tagged) _ _
                rw [hl]
                cases ht : seq t.type tagged
                · (conv => whnf)
                  (repeat' (first
      | (refine Obl.mk ⟨by omega, by omega⟩ ?_; conv => whnf)
      | (refine Obl.mk ⟨by omega, by omega, ⟨by omega, by omega⟩⟩ ?_; conv => whnf)
      | ((with_reducible refine Tst.tt ?_); conv => whnf)
      | ((with_reducible refine Tst.ff ?_); conv => whnf)
      | ((with_reducible refine Tst.dec (fun _ => ?_) (fun _ => ?_)) <;> first | (exfalso; omega) | (conv => whnf))
      | ((with_reducible refine Tst.not ?_))
      | (refine Wit.conv ⟨by omega, by omega⟩ ?_; conv => whnf)
      | ((with_reducible refine IdxV.nat (by omega) ?_); conv => whnf)
      | ((with_reducible refine SameW.mk rfl ?_); conv => whnf)
      | (refine LoadV.mem (i := 0) (by assumption) rfl rfl ?_; conv => whnf)
      | (refine LoadV.mem (i := 1) (by assumption) rfl rfl ?_; conv => whnf)
      | (refine LoadV.mem (i := 2) (by assumption) rfl rfl ?_; conv => whnf)
      | ((with_reducible refine Tst.beqT ?_))
      | ((with_reducible refine Tst.beqF ?_))
      | (refine Tst.yes rfl ?_; conv => whnf)
      | (refine Tst.no rfl ?_; conv => whnf)))
                  exact ⟨rfl, hm7.ext⟩
                · (conv => whnf)
                  (repeat' (first
      | (refine Obl.mk ⟨by omega, by omega⟩ ?_; conv => whnf)
      | (refine Obl.mk ⟨by omega, by omega, ⟨by omega, by omega⟩⟩ ?_; conv => whnf)
      | ((with_reducible refine Tst.tt ?_); conv => whnf)
      | ((with_reducible refine Tst.ff ?_); conv => whnf)
      | ((with_reducible refine Tst.dec (fun _ => ?_) (fun _ => ?_)) <;> first | (exfalso; omega) | (conv => whnf))
      | ((with_reducible refine Tst.not ?_))
      | (refine Wit.conv ⟨by omega, by omega⟩ ?_; conv => whnf)
      | ((with_reducible refine IdxV.nat (by omega) ?_); conv => whnf)
      | ((with_reducible refine SameW.mk rfl ?_); conv => whnf)
      | (refine LoadV.mem (i := 0) (by assumption) rfl rfl ?_; conv => whnf)
      | (refine LoadV.mem (i := 1) (by assumption) rfl rfl ?_; conv => whnf)
      | (refine LoadV.mem (i := 2) (by assumption) rfl rfl ?_; conv => whnf)
      | ((with_reducible refine Tst.beqT ?_))
      | ((with_reducible refine Tst.beqF ?_))
      | (refine Tst.yes rfl ?_; conv => whnf)
      | (refine Tst.no rfl ?_; conv => whnf)))
                  exact ⟨rfl, hm7.ext⟩
            · rw [if_pos ⟨rfl, .inl (by decide)⟩]
              refine DrawV.free rfl (by kernel_rfl) ?_
              (conv => whnf)
              (apply StepD.still; (· intro wd hd; (conv => whnf); (repeat (intro _ _; (conv => whnf))); (first | exact ⟨Ext.refl _, rfl⟩ | ((repeat' (first | (refine Obl.mk ⟨by omega, by omega⟩ ?_; conv => whnf) | (refine Obl.mk ⟨by omega, by omega, ⟨by omega, by omega⟩⟩ ?_; conv => whnf) | ((with_reducible refine Tst.tt ?_); conv => whnf) | ((with_reducible refine Tst.ff ?_); conv => whnf) | ((with_reducible refine Tst.dec (fun _ => ?_) (fun _ => ?_)) <;> first | (exfalso; omega) | (conv => whnf)) | ((with_reducible refine Tst.not ?_)) | (refine Wit.conv ⟨by omega, by omega⟩ ?_; conv => whnf) | ((with_reducible refine IdxV.nat (by omega) ?_); conv => whnf) | ((with_reducible refine SameW.mk rfl ?_); conv => whnf) | ((with_reducible refine Tst.beqT ?_)) | ((with_reducible refine Tst.beqF ?_)) | (refine Tst.yes rfl ?_; conv => whnf) | (refine Tst.no rfl ?_; conv => whnf))); exact ⟨Ext.refl _, rfl⟩))); (conv => whnf))
              (apply StepD.still; (· intro wd hd; (conv => whnf); (repeat (intro _ _; (conv => whnf))); (first | exact ⟨Ext.refl _, rfl⟩ | ((repeat' (first | (refine Obl.mk ⟨by omega, by omega⟩ ?_; conv => whnf) | (refine Obl.mk ⟨by omega, by omega, ⟨by omega, by omega⟩⟩ ?_; conv => whnf) | ((with_reducible refine Tst.tt ?_); conv => whnf) | ((with_reducible refine Tst.ff ?_); conv => whnf) | ((with_reducible refine Tst.dec (fun _ => ?_) (fun _ => ?_)) <;> first | (exfalso; omega) | (conv => whnf)) | ((with_reducible refine Tst.not ?_)) | (refine Wit.conv ⟨by omega, by omega⟩ ?_; conv => whnf) | ((with_reducible refine IdxV.nat (by omega) ?_); conv => whnf) | ((with_reducible refine SameW.mk rfl ?_); conv => whnf) | ((with_reducible refine Tst.beqT ?_)) | ((with_reducible refine Tst.beqF ?_)) | (refine Tst.yes rfl ?_; conv => whnf) | (refine Tst.no rfl ?_; conv => whnf))); exact ⟨Ext.refl _, rfl⟩))); (conv => whnf))
              (apply StepD.still; (· intro wd hd; (conv => whnf); (repeat (intro _ _; (conv => whnf))); (first | exact ⟨Ext.refl _, rfl⟩ | ((repeat' (first | (refine Obl.mk ⟨by omega, by omega⟩ ?_; conv => whnf) | (refine Obl.mk ⟨by omega, by omega, ⟨by omega, by omega⟩⟩ ?_; conv => whnf) | ((with_reducible refine Tst.tt ?_); conv => whnf) | ((with_reducible refine Tst.ff ?_); conv => whnf) | ((with_reducible refine Tst.dec (fun _ => ?_) (fun _ => ?_)) <;> first | (exfalso; omega) | (conv => whnf)) | ((with_reducible refine Tst.not ?_)) | (refine Wit.conv ⟨by omega, by omega⟩ ?_; conv => whnf) | ((with_reducible refine IdxV.nat (by omega) ?_); conv => whnf) | ((with_reducible refine SameW.mk rfl ?_); conv => whnf) | ((with_reducible refine Tst.beqT ?_)) | ((with_reducible refine Tst.beqF ?_)) | (refine Tst.yes rfl ?_; conv => whnf) | (refine Tst.no rfl ?_; conv => whnf))); exact ⟨Ext.refl _, rfl⟩))); (conv => whnf))
              (apply StepD.still; (· intro wd hd; (conv => whnf); (repeat (intro _ _; (conv => whnf))); (first | exact ⟨Ext.refl _, rfl⟩ | ((repeat' (first | (refine Obl.mk ⟨by omega, by omega⟩ ?_; conv => whnf) | (refine Obl.mk ⟨by omega, by omega, ⟨by omega, by omega⟩⟩ ?_; conv => whnf) | ((with_reducible refine Tst.tt ?_); conv => whnf) | ((with_reducible refine Tst.ff ?_); conv => whnf) | ((with_reducible refine Tst.dec (fun _ => ?_) (fun _ => ?_)) <;> first | (exfalso; omega) | (conv => whnf)) | ((with_reducible refine Tst.not ?_)) | (refine Wit.conv ⟨by omega, by omega⟩ ?_; conv => whnf) | ((with_reducible refine IdxV.nat (by omega) ?_); conv => whnf) | ((with_reducible refine SameW.mk rfl ?_); conv => whnf) | ((with_reducible refine Tst.beqT ?_)) | ((with_reducible refine Tst.beqF ?_)) | (refine Tst.yes rfl ?_; conv => whnf) | (refine Tst.no rfl ?_; conv => whnf))); exact ⟨Ext.refl _, rfl⟩))); (conv => whnf))
              (apply StepD.still; (· intro wd hd; (conv => whnf); (repeat (intro _ _; (conv => whnf))); (first | exact ⟨Ext.refl _, rfl⟩ | ((repeat' (first | (refine Obl.mk ⟨by omega, by omega⟩ ?_; conv => whnf) | (refine Obl.mk ⟨by omega, by omega, ⟨by omega, by omega⟩⟩ ?_; conv => whnf) | ((with_reducible refine Tst.tt ?_); conv => whnf) | ((with_reducible refine Tst.ff ?_); conv => whnf) | ((with_reducible refine Tst.dec (fun _ => ?_) (fun _ => ?_)) <;> first | (exfalso; omega) | (conv => whnf)) | ((with_reducible refine Tst.not ?_)) | (refine Wit.conv ⟨by omega, by omega⟩ ?_; conv => whnf) | ((with_reducible refine IdxV.nat (by omega) ?_); conv => whnf) | ((with_reducible refine SameW.mk rfl ?_); conv => whnf) | ((with_reducible refine Tst.beqT ?_)) | ((with_reducible refine Tst.beqF ?_)) | (refine Tst.yes rfl ?_; conv => whnf) | (refine Tst.no rfl ?_; conv => whnf))); exact ⟨Ext.refl _, rfl⟩))); (conv => whnf))
              (apply StepD.still; (· intro wd hd; (conv => whnf); (repeat (intro _ _; (conv => whnf))); (first | exact ⟨Ext.refl _, rfl⟩ | ((repeat' (first | (refine Obl.mk ⟨by omega, by omega⟩ ?_; conv => whnf) | (refine Obl.mk ⟨by omega, by omega, ⟨by omega, by omega⟩⟩ ?_; conv => whnf) | ((with_reducible refine Tst.tt ?_); conv => whnf) | ((with_reducible refine Tst.ff ?_); conv => whnf) | ((with_reducible refine Tst.dec (fun _ => ?_) (fun _ => ?_)) <;> first | (exfalso; omega) | (conv => whnf)) | ((with_reducible refine Tst.not ?_)) | (refine Wit.conv ⟨by omega, by omega⟩ ?_; conv => whnf) | ((with_reducible refine IdxV.nat (by omega) ?_); conv => whnf) | ((with_reducible refine SameW.mk rfl ?_); conv => whnf) | ((with_reducible refine Tst.beqT ?_)) | ((with_reducible refine Tst.beqF ?_)) | (refine Tst.yes rfl ?_; conv => whnf) | (refine Tst.no rfl ?_; conv => whnf))); exact ⟨Ext.refl _, rfl⟩))); (conv => whnf))
              (apply StepD.still; (· intro wd hd; (conv => whnf); (repeat (intro _ _; (conv => whnf))); (first | exact ⟨Ext.refl _, rfl⟩ | ((repeat' (first | (refine Obl.mk ⟨by omega, by omega⟩ ?_; conv => whnf) | (refine Obl.mk ⟨by omega, by omega, ⟨by omega, by omega⟩⟩ ?_; conv => whnf) | ((with_reducible refine Tst.tt ?_); conv => whnf) | ((with_reducible refine Tst.ff ?_); conv => whnf) | ((with_reducible refine Tst.dec (fun _ => ?_) (fun _ => ?_)) <;> first | (exfalso; omega) | (conv => whnf)) | ((with_reducible refine Tst.not ?_)) | (refine Wit.conv ⟨by omega, by omega⟩ ?_; conv => whnf) | ((with_reducible refine IdxV.nat (by omega) ?_); conv => whnf) | ((with_reducible refine SameW.mk rfl ?_); conv => whnf) | ((with_reducible refine Tst.beqT ?_)) | ((with_reducible refine Tst.beqF ?_)) | (refine Tst.yes rfl ?_; conv => whnf) | (refine Tst.no rfl ?_; conv => whnf))); exact ⟨Ext.refl _, rfl⟩))); (conv => whnf))
              (apply StepD.still; (· intro wd hd; (conv => whnf); (repeat (intro _ _; (conv => whnf))); (first | exact ⟨Ext.refl _, rfl⟩ | ((repeat' (first | (refine Obl.mk ⟨by omega, by omega⟩ ?_; conv => whnf) | (refine Obl.mk ⟨by omega, by omega, ⟨by omega, by omega⟩⟩ ?_; conv => whnf) | ((with_reducible refine Tst.tt ?_); conv => whnf) | ((with_reducible refine Tst.ff ?_); conv => whnf) | ((with_reducible refine Tst.dec (fun _ => ?_) (fun _ => ?_)) <;> first | (exfalso; omega) | (conv => whnf)) | ((with_reducible refine Tst.not ?_)) | (refine Wit.conv ⟨by omega, by omega⟩ ?_; conv => whnf) | ((with_reducible refine IdxV.nat (by omega) ?_); conv => whnf) | ((with_reducible refine SameW.mk rfl ?_); conv => whnf) | ((with_reducible refine Tst.beqT ?_)) | ((with_reducible refine Tst.beqF ?_)) | (refine Tst.yes rfl ?_; conv => whnf) | (refine Tst.no rfl ?_; conv => whnf))); exact ⟨Ext.refl _, rfl⟩))); (conv => whnf))
              (apply StepD.still; (· intro wd hd; (conv => whnf); (repeat (intro _ _; (conv => whnf))); (first | exact ⟨Ext.refl _, rfl⟩ | ((repeat' (first | (refine Obl.mk ⟨by omega, by omega⟩ ?_; conv => whnf) | (refine Obl.mk ⟨by omega, by omega, ⟨by omega, by omega⟩⟩ ?_; conv => whnf) | ((with_reducible refine Tst.tt ?_); conv => whnf) | ((with_reducible refine Tst.ff ?_); conv => whnf) | ((with_reducible refine Tst.dec (fun _ => ?_) (fun _ => ?_)) <;> first | (exfalso; omega) | (conv => whnf)) | ((with_reducible refine Tst.not ?_)) | (refine Wit.conv ⟨by omega, by omega⟩ ?_; conv => whnf) | ((with_reducible refine IdxV.nat (by omega) ?_); conv => whnf) | ((with_reducible refine SameW.mk rfl ?_); conv => whnf) | ((with_reducible refine Tst.beqT ?_)) | ((with_reducible refine Tst.beqF ?_)) | (refine Tst.yes rfl ?_; conv => whnf) | (refine Tst.no rfl ?_; conv => whnf))); exact ⟨Ext.refl _, rfl⟩))); (conv => whnf))
              (apply StepD.still; (· intro wd hd; (conv => whnf); (repeat (intro _ _; (conv => whnf))); (first | exact ⟨Ext.refl _, rfl⟩ | ((repeat' (first | (refine Obl.mk ⟨by omega, by omega⟩ ?_; conv => whnf) | (refine Obl.mk ⟨by omega, by omega, ⟨by omega, by omega⟩⟩ ?_; conv => whnf) | ((with_reducible refine Tst.tt ?_); conv => whnf) | ((with_reducible refine Tst.ff ?_); conv => whnf) | ((with_reducible refine Tst.dec (fun _ => ?_) (fun _ => ?_)) <;> first | (exfalso; omega) | (conv => whnf)) | ((with_reducible refine Tst.not ?_)) | (refine Wit.conv ⟨by omega, by omega⟩ ?_; conv => whnf) | ((with_reducible refine IdxV.nat (by omega) ?_); conv => whnf) | ((with_reducible refine SameW.mk rfl ?_); conv => whnf) | ((with_reducible refine Tst.beqT ?_)) | ((with_reducible refine Tst.beqF ?_)) | (refine Tst.yes rfl ?_; conv => whnf) | (refine Tst.no rfl ?_; conv => whnf))); exact ⟨Ext.refl _, rfl⟩))); (conv => whnf))
              intro wd hd
              (conv => whnf)
              have hm7 := hm6.drew.call hd
              (repeat' (first
      | (refine Obl.mk ⟨by omega, by omega⟩ ?_; conv => whnf)
      | (refine Obl.mk ⟨by omega, by omega, ⟨by omega, by omega⟩⟩ ?_; conv => whnf)
      | ((with_reducible refine Tst.tt ?_); conv => whnf)
      | ((with_reducible refine Tst.ff ?_); conv => whnf)
      | ((with_reducible refine Tst.dec (fun _ => ?_) (fun _ => ?_)) <;> first | (exfalso; omega) | (conv => whnf))
      | ((with_reducible refine Tst.not ?_))
      | (refine Wit.conv ⟨by omega, by omega⟩ ?_; conv => whnf)
      | ((with_reducible refine IdxV.nat (by omega) ?_); conv => whnf)
      | ((with_reducible refine SameW.mk rfl ?_); conv => whnf)
      | (refine LoadV.mem (i := 0) (by assumption) rfl rfl ?_; conv => whnf)
      | (refine LoadV.mem (i := 1) (by assumption) rfl rfl ?_; conv => whnf)
      | (refine LoadV.mem (i := 2) (by assumption) rfl rfl ?_; conv => whnf)
      | ((with_reducible refine Tst.beqT ?_))
      | ((with_reducible refine Tst.beqF ?_))
      | (refine Tst.yes rfl ?_; conv => whnf)
      | (refine Tst.no rfl ?_; conv => whnf)))
              refine NewV.mem hm7 ?_
              intro ab w8 hm8
              (conv => whnf)
              refine CallV.of (or_any 61 ab w8 (hm8.get (List.mem_cons_self ..))) ?_
              rintro v w9 ⟨rfl, rfl⟩
              (conv => whnf)
              exact ⟨rfl, hm8.ext⟩
        · rw [if_neg (by simp), if_neg (by simp)]
          (conv => whnf)
          (repeat' (first
      | (refine Obl.mk ⟨by omega, by omega⟩ ?_; conv => whnf)
      | (refine Obl.mk ⟨by omega, by omega, ⟨by omega, by omega⟩⟩ ?_; conv => whnf)
      | ((with_reducible refine Tst.tt ?_); conv => whnf)
      | ((with_reducible refine Tst.ff ?_); conv => whnf)
      | ((with_reducible refine Tst.dec (fun _ => ?_) (fun _ => ?_)) <;> first | (exfalso; omega) | (conv => whnf))
      | ((with_reducible refine Tst.not ?_))
      | (refine Wit.conv ⟨by omega, by omega⟩ ?_; conv => whnf)
      | ((with_reducible refine IdxV.nat (by omega) ?_); conv => whnf)
      | ((with_reducible refine SameW.mk rfl ?_); conv => whnf)
      | (refine LoadV.mem (i := 0) (by assumption) rfl rfl ?_; conv => whnf)
      | (refine LoadV.mem (i := 1) (by assumption) rfl rfl ?_; conv => whnf)
      | (refine LoadV.mem (i := 2) (by assumption) rfl rfl ?_; conv => whnf)
      | ((with_reducible refine Tst.beqT ?_))
      | ((with_reducible refine Tst.beqF ?_))
      | (refine Tst.yes rfl ?_; conv => whnf)
      | (refine Tst.no rfl ?_; conv => whnf)))
          show Tst ((!seq t.lang ⟨#[]⟩) == seq t.type tagged) _ _
          rw [hl]
          cases ht : seq t.type tagged
          · (conv => whnf)
            (repeat' (first
      | (refine Obl.mk ⟨by omega, by omega⟩ ?_; conv => whnf)
      | (refine Obl.mk ⟨by omega, by omega, ⟨by omega, by omega⟩⟩ ?_; conv => whnf)
      | ((with_reducible refine Tst.tt ?_); conv => whnf)
      | ((with_reducible refine Tst.ff ?_); conv => whnf)
      | ((with_reducible refine Tst.dec (fun _ => ?_) (fun _ => ?_)) <;> first | (exfalso; omega) | (conv => whnf))
      | ((with_reducible refine Tst.not ?_))
      | (refine Wit.conv ⟨by omega, by omega⟩ ?_; conv => whnf)
      | ((with_reducible refine IdxV.nat (by omega) ?_); conv => whnf)
      | ((with_reducible refine SameW.mk rfl ?_); conv => whnf)
      | (refine LoadV.mem (i := 0) (by assumption) rfl rfl ?_; conv => whnf)
      | (refine LoadV.mem (i := 1) (by assumption) rfl rfl ?_; conv => whnf)
      | (refine LoadV.mem (i := 2) (by assumption) rfl rfl ?_; conv => whnf)
      | ((with_reducible refine Tst.beqT ?_))
      | ((with_reducible refine Tst.beqF ?_))
      | (refine Tst.yes rfl ?_; conv => whnf)
      | (refine Tst.no rfl ?_; conv => whnf)))
            exact ⟨rfl, hm.ext⟩
          · (conv => whnf)
            (repeat' (first
      | (refine Obl.mk ⟨by omega, by omega⟩ ?_; conv => whnf)
      | (refine Obl.mk ⟨by omega, by omega, ⟨by omega, by omega⟩⟩ ?_; conv => whnf)
      | ((with_reducible refine Tst.tt ?_); conv => whnf)
      | ((with_reducible refine Tst.ff ?_); conv => whnf)
      | ((with_reducible refine Tst.dec (fun _ => ?_) (fun _ => ?_)) <;> first | (exfalso; omega) | (conv => whnf))
      | ((with_reducible refine Tst.not ?_))
      | (refine Wit.conv ⟨by omega, by omega⟩ ?_; conv => whnf)
      | ((with_reducible refine IdxV.nat (by omega) ?_); conv => whnf)
      | ((with_reducible refine SameW.mk rfl ?_); conv => whnf)
      | (refine LoadV.mem (i := 0) (by assumption) rfl rfl ?_; conv => whnf)
      | (refine LoadV.mem (i := 1) (by assumption) rfl rfl ?_; conv => whnf)
      | (refine LoadV.mem (i := 2) (by assumption) rfl rfl ?_; conv => whnf)
      | ((with_reducible refine Tst.beqT ?_))
      | ((with_reducible refine Tst.beqF ?_))
      | (refine Tst.yes rfl ?_; conv => whnf)
      | (refine Tst.no rfl ?_; conv => whnf)))
            exact ⟨rfl, hm.ext⟩
theorem termCheck_any (t : TM) (ht : TermOk t) (w : World) (hM : MaxLenAt w) (hT : CellsAt w 3 0 basesV) : Gv Tryz.prog 47 [termV t] w fun v w' => v = .int .i64 (termE t) ∧ Ext w w' := by
  have hlit := fun w1 (he : Ext w w1) => literal_any t ht w1 (hM.ext he)
  obtain ⟨h1, h2, h3, h4⟩ := ht
  refine gv (by kernel_rfl) Tryz.func47 rfl Tryz.ntmps47 rfl ?_; conv => whnf
  refine NewV.mem (Mem.nil w) ?_
  intro b w1 hm
  (conv => whnf)
  have hA : (t.kind = 1 ∨ t.kind = 2) → termE t = if seq t.type ⟨#[]⟩ = false ∨ seq t.lang ⟨#[]⟩ = false then 70 else if t.kind = 1 then iriE t.text else if 65536 < t.text.size then 2 else labE t.text := fun h => by rw [termE, if_pos h]
  have hB : ¬ (t.kind = 1 ∨ t.kind = 2) → termE t = if t.kind = 3 then litE t else 70 := fun h => by rw [termE, if_neg h]
  (repeat' (first
      | (refine Obl.mk ⟨by omega, by omega⟩ ?_; conv => whnf)
      | (refine Obl.mk ⟨by omega, by omega, ⟨by omega, by omega⟩⟩ ?_; conv => whnf)
      | ((with_reducible refine Tst.tt ?_); conv => whnf)
      | ((with_reducible refine Tst.ff ?_); conv => whnf)
      | ((with_reducible refine Tst.dec (fun _ => ?_) (fun _ => ?_)) <;> first | (exfalso; omega) | (conv => whnf))
      | ((with_reducible refine Tst.not ?_))
      | (refine Wit.conv ⟨by omega, by omega⟩ ?_; conv => whnf)
      | ((with_reducible refine IdxV.nat (by omega) ?_); conv => whnf)
      | ((with_reducible refine SameW.mk rfl ?_); conv => whnf)
      | (refine LoadV.mem (i := 0) (by assumption) rfl rfl ?_; conv => whnf)
      | (refine LoadV.mem (i := 1) (by assumption) rfl rfl ?_; conv => whnf)
      | (refine LoadV.mem (i := 2) (by assumption) rfl rfl ?_; conv => whnf)
      | ((with_reducible refine Tst.beqT ?_))
      | ((with_reducible refine Tst.beqF ?_))
      | (refine Tst.yes rfl ?_; conv => whnf)
      | (refine Tst.no rfl ?_; conv => whnf)))
  · rw [hA (.inl (by assumption))]
    cases hy : seq t.type ⟨#[]⟩
    · (conv => whnf)
      (repeat' (first
      | (refine Obl.mk ⟨by omega, by omega⟩ ?_; conv => whnf)
      | (refine Obl.mk ⟨by omega, by omega, ⟨by omega, by omega⟩⟩ ?_; conv => whnf)
      | ((with_reducible refine Tst.tt ?_); conv => whnf)
      | ((with_reducible refine Tst.ff ?_); conv => whnf)
      | ((with_reducible refine Tst.dec (fun _ => ?_) (fun _ => ?_)) <;> first | (exfalso; omega) | (conv => whnf))
      | ((with_reducible refine Tst.not ?_))
      | (refine Wit.conv ⟨by omega, by omega⟩ ?_; conv => whnf)
      | ((with_reducible refine IdxV.nat (by omega) ?_); conv => whnf)
      | ((with_reducible refine SameW.mk rfl ?_); conv => whnf)
      | (refine LoadV.mem (i := 0) (by assumption) rfl rfl ?_; conv => whnf)
      | (refine LoadV.mem (i := 1) (by assumption) rfl rfl ?_; conv => whnf)
      | (refine LoadV.mem (i := 2) (by assumption) rfl rfl ?_; conv => whnf)
      | ((with_reducible refine Tst.beqT ?_))
      | ((with_reducible refine Tst.beqF ?_))
      | (refine Tst.yes rfl ?_; conv => whnf)
      | (refine Tst.no rfl ?_; conv => whnf)))
      exact ⟨by rw [if_pos (.inl rfl)]; rfl, hm.ext⟩
    · (conv => whnf)
      (repeat' (first
      | (refine Obl.mk ⟨by omega, by omega⟩ ?_; conv => whnf)
      | (refine Obl.mk ⟨by omega, by omega, ⟨by omega, by omega⟩⟩ ?_; conv => whnf)
      | ((with_reducible refine Tst.tt ?_); conv => whnf)
      | ((with_reducible refine Tst.ff ?_); conv => whnf)
      | ((with_reducible refine Tst.dec (fun _ => ?_) (fun _ => ?_)) <;> first | (exfalso; omega) | (conv => whnf))
      | ((with_reducible refine Tst.not ?_))
      | (refine Wit.conv ⟨by omega, by omega⟩ ?_; conv => whnf)
      | ((with_reducible refine IdxV.nat (by omega) ?_); conv => whnf)
      | ((with_reducible refine SameW.mk rfl ?_); conv => whnf)
      | (refine LoadV.mem (i := 0) (by assumption) rfl rfl ?_; conv => whnf)
      | (refine LoadV.mem (i := 1) (by assumption) rfl rfl ?_; conv => whnf)
      | (refine LoadV.mem (i := 2) (by assumption) rfl rfl ?_; conv => whnf)
      | ((with_reducible refine Tst.beqT ?_))
      | ((with_reducible refine Tst.beqF ?_))
      | (refine Tst.yes rfl ?_; conv => whnf)
      | (refine Tst.no rfl ?_; conv => whnf)))
      cases hl : seq t.lang ⟨#[]⟩
      · (conv => whnf)
        (repeat' (first
      | (refine Obl.mk ⟨by omega, by omega⟩ ?_; conv => whnf)
      | (refine Obl.mk ⟨by omega, by omega, ⟨by omega, by omega⟩⟩ ?_; conv => whnf)
      | ((with_reducible refine Tst.tt ?_); conv => whnf)
      | ((with_reducible refine Tst.ff ?_); conv => whnf)
      | ((with_reducible refine Tst.dec (fun _ => ?_) (fun _ => ?_)) <;> first | (exfalso; omega) | (conv => whnf))
      | ((with_reducible refine Tst.not ?_))
      | (refine Wit.conv ⟨by omega, by omega⟩ ?_; conv => whnf)
      | ((with_reducible refine IdxV.nat (by omega) ?_); conv => whnf)
      | ((with_reducible refine SameW.mk rfl ?_); conv => whnf)
      | (refine LoadV.mem (i := 0) (by assumption) rfl rfl ?_; conv => whnf)
      | (refine LoadV.mem (i := 1) (by assumption) rfl rfl ?_; conv => whnf)
      | (refine LoadV.mem (i := 2) (by assumption) rfl rfl ?_; conv => whnf)
      | ((with_reducible refine Tst.beqT ?_))
      | ((with_reducible refine Tst.beqF ?_))
      | (refine Tst.yes rfl ?_; conv => whnf)
      | (refine Tst.no rfl ?_; conv => whnf)))
        exact ⟨by rw [if_pos (.inr rfl)]; rfl, hm.ext⟩
      · rw [if_neg (by simp), if_pos (by assumption)]
        (conv => whnf)
        (repeat' (first
      | (refine Obl.mk ⟨by omega, by omega⟩ ?_; conv => whnf)
      | (refine Obl.mk ⟨by omega, by omega, ⟨by omega, by omega⟩⟩ ?_; conv => whnf)
      | ((with_reducible refine Tst.tt ?_); conv => whnf)
      | ((with_reducible refine Tst.ff ?_); conv => whnf)
      | ((with_reducible refine Tst.dec (fun _ => ?_) (fun _ => ?_)) <;> first | (exfalso; omega) | (conv => whnf))
      | ((with_reducible refine Tst.not ?_))
      | (refine Wit.conv ⟨by omega, by omega⟩ ?_; conv => whnf)
      | ((with_reducible refine IdxV.nat (by omega) ?_); conv => whnf)
      | ((with_reducible refine SameW.mk rfl ?_); conv => whnf)
      | (refine LoadV.mem (i := 0) (by assumption) rfl rfl ?_; conv => whnf)
      | (refine LoadV.mem (i := 1) (by assumption) rfl rfl ?_; conv => whnf)
      | (refine LoadV.mem (i := 2) (by assumption) rfl rfl ?_; conv => whnf)
      | ((with_reducible refine Tst.beqT ?_))
      | ((with_reducible refine Tst.beqF ?_))
      | (refine Tst.yes rfl ?_; conv => whnf)
      | (refine Tst.no rfl ?_; conv => whnf)))
        refine CallV.of (iriCheck_any t.text (by omega) w1) ?_
        rintro v w2 ⟨rfl, he⟩
        (conv => whnf)
        exact ⟨rfl, hm.ext.trans he⟩
  · rw [hA (.inr (by assumption))]
    cases hy : seq t.type ⟨#[]⟩
    · (conv => whnf)
      (repeat' (first
      | (refine Obl.mk ⟨by omega, by omega⟩ ?_; conv => whnf)
      | (refine Obl.mk ⟨by omega, by omega, ⟨by omega, by omega⟩⟩ ?_; conv => whnf)
      | ((with_reducible refine Tst.tt ?_); conv => whnf)
      | ((with_reducible refine Tst.ff ?_); conv => whnf)
      | ((with_reducible refine Tst.dec (fun _ => ?_) (fun _ => ?_)) <;> first | (exfalso; omega) | (conv => whnf))
      | ((with_reducible refine Tst.not ?_))
      | (refine Wit.conv ⟨by omega, by omega⟩ ?_; conv => whnf)
      | ((with_reducible refine IdxV.nat (by omega) ?_); conv => whnf)
      | ((with_reducible refine SameW.mk rfl ?_); conv => whnf)
      | (refine LoadV.mem (i := 0) (by assumption) rfl rfl ?_; conv => whnf)
      | (refine LoadV.mem (i := 1) (by assumption) rfl rfl ?_; conv => whnf)
      | (refine LoadV.mem (i := 2) (by assumption) rfl rfl ?_; conv => whnf)
      | ((with_reducible refine Tst.beqT ?_))
      | ((with_reducible refine Tst.beqF ?_))
      | (refine Tst.yes rfl ?_; conv => whnf)
      | (refine Tst.no rfl ?_; conv => whnf)))
      exact ⟨by rw [if_pos (.inl rfl)]; rfl, hm.ext⟩
    · (conv => whnf)
      (repeat' (first
      | (refine Obl.mk ⟨by omega, by omega⟩ ?_; conv => whnf)
      | (refine Obl.mk ⟨by omega, by omega, ⟨by omega, by omega⟩⟩ ?_; conv => whnf)
      | ((with_reducible refine Tst.tt ?_); conv => whnf)
      | ((with_reducible refine Tst.ff ?_); conv => whnf)
      | ((with_reducible refine Tst.dec (fun _ => ?_) (fun _ => ?_)) <;> first | (exfalso; omega) | (conv => whnf))
      | ((with_reducible refine Tst.not ?_))
      | (refine Wit.conv ⟨by omega, by omega⟩ ?_; conv => whnf)
      | ((with_reducible refine IdxV.nat (by omega) ?_); conv => whnf)
      | ((with_reducible refine SameW.mk rfl ?_); conv => whnf)
      | (refine LoadV.mem (i := 0) (by assumption) rfl rfl ?_; conv => whnf)
      | (refine LoadV.mem (i := 1) (by assumption) rfl rfl ?_; conv => whnf)
      | (refine LoadV.mem (i := 2) (by assumption) rfl rfl ?_; conv => whnf)
      | ((with_reducible refine Tst.beqT ?_))
      | ((with_reducible refine Tst.beqF ?_))
      | (refine Tst.yes rfl ?_; conv => whnf)
      | (refine Tst.no rfl ?_; conv => whnf)))
      cases hl : seq t.lang ⟨#[]⟩
      · (conv => whnf)
        (repeat' (first
      | (refine Obl.mk ⟨by omega, by omega⟩ ?_; conv => whnf)
      | (refine Obl.mk ⟨by omega, by omega, ⟨by omega, by omega⟩⟩ ?_; conv => whnf)
      | ((with_reducible refine Tst.tt ?_); conv => whnf)
      | ((with_reducible refine Tst.ff ?_); conv => whnf)
      | ((with_reducible refine Tst.dec (fun _ => ?_) (fun _ => ?_)) <;> first | (exfalso; omega) | (conv => whnf))
      | ((with_reducible refine Tst.not ?_))
      | (refine Wit.conv ⟨by omega, by omega⟩ ?_; conv => whnf)
      | ((with_reducible refine IdxV.nat (by omega) ?_); conv => whnf)
      | ((with_reducible refine SameW.mk rfl ?_); conv => whnf)
      | (refine LoadV.mem (i := 0) (by assumption) rfl rfl ?_; conv => whnf)
      | (refine LoadV.mem (i := 1) (by assumption) rfl rfl ?_; conv => whnf)
      | (refine LoadV.mem (i := 2) (by assumption) rfl rfl ?_; conv => whnf)
      | ((with_reducible refine Tst.beqT ?_))
      | ((with_reducible refine Tst.beqF ?_))
      | (refine Tst.yes rfl ?_; conv => whnf)
      | (refine Tst.no rfl ?_; conv => whnf)))
        exact ⟨by rw [if_pos (.inr rfl)]; rfl, hm.ext⟩
      · rw [if_neg (by simp), if_neg (by omega)]
        (conv => whnf)
        (repeat' (first
      | (refine Obl.mk ⟨by omega, by omega⟩ ?_; conv => whnf)
      | (refine Obl.mk ⟨by omega, by omega, ⟨by omega, by omega⟩⟩ ?_; conv => whnf)
      | ((with_reducible refine Tst.tt ?_); conv => whnf)
      | ((with_reducible refine Tst.ff ?_); conv => whnf)
      | ((with_reducible refine Tst.dec (fun _ => ?_) (fun _ => ?_)) <;> first | (exfalso; omega) | (conv => whnf))
      | ((with_reducible refine Tst.not ?_))
      | (refine Wit.conv ⟨by omega, by omega⟩ ?_; conv => whnf)
      | ((with_reducible refine IdxV.nat (by omega) ?_); conv => whnf)
      | ((with_reducible refine SameW.mk rfl ?_); conv => whnf)
      | (refine LoadV.mem (i := 0) (by assumption) rfl rfl ?_; conv => whnf)
      | (refine LoadV.mem (i := 1) (by assumption) rfl rfl ?_; conv => whnf)
      | (refine LoadV.mem (i := 2) (by assumption) rfl rfl ?_; conv => whnf)
      | ((with_reducible refine Tst.beqT ?_))
      | ((with_reducible refine Tst.beqF ?_))
      | (refine Tst.yes rfl ?_; conv => whnf)
      | (refine Tst.no rfl ?_; conv => whnf)))
        · exact ⟨by rw [if_pos (by omega)]; rfl, hm.ext⟩
        · rw [if_neg (by omega)]
          refine CallV.of (label_any t.text (by omega) w1 (hT.ext hm.ext)) ?_
          rintro v w2 ⟨rfl, rfl⟩
          (conv => whnf)
          exact ⟨rfl, hm.ext⟩
  · rw [hB (by omega), if_pos (by assumption)]
    refine LoadA.mem hm (i := 0) rfl rfl ?_
    (conv => whnf)
    refine CallV.of (hlit w1 hm.ext) ?_
    rintro v w2 ⟨rfl, he⟩
    (conv => whnf)
    exact ⟨rfl, hm.ext.trans he⟩
  · exact ⟨by rw [hB (by omega), if_neg (by omega)]; rfl, hm.ext⟩
end Go.Proofs.YtajgbepghniciaaGreatDoor
namespace Go.Proofs.YtajgbepghniciaaGreatDoor
open Go.RowKit V
set_option maxRecDepth 100000

theorem okT_cons (d : Bool) (r : Nat) (l : List Nat) : okT d (r :: l) = ((followB r || decide (r = 46)) && okT (decide (r = 46)) l) := rfl
theorem shaped_any (r0 : Nat) (t : List Nat) (A : Option Addr) (c : Nat) (w : World) (hA : SlAt Go.Proofs.YtajgbepghniciaaGreatDoor.V.encI 1 w A ((r0 :: t).map Int.ofNat)) (hl : t.length ≤ 4000000000000) :
    Gv Tryz.prog 154 [.slice A (t.length + 1) c] w fun v w' => v = .bool (okT false t) ∧ Ext w w' := by
  refine gv (by kernel_rfl) Tryz.func154 rfl Tryz.ntmps154 rfl ?_; conv => whnf
  refine loopV (fun x : Nat × Bool => [(0, .slice A (t.length + 1) c), (3, .int .i64 (x.1 + 1 : Nat))]) (fun x w2 => x.1 ≤ t.length ∧ okT false t = okT x.2 (t.drop x.1) ∧ (x.2 = true → x.1 < t.length) ∧ Ext w w2) (fun x => t.length - x.1) (0, false) ⟨rfl, rfl, trivial⟩ ⟨by simp, rfl, by simp, Ext.refl _⟩ ?_
  rintro ⟨i, d⟩ w2 ρ' ⟨h1, h2, h3, he⟩
  simp only at h1 h2 h3
  dsimp only
  (conv => whnf)
  (repeat' (first
      | (refine Obl.mk ⟨by omega, by omega⟩ ?_; conv => whnf)
      | (refine Obl.mk ⟨by omega, by omega, ⟨by omega, by omega⟩⟩ ?_; conv => whnf)
      | ((with_reducible refine Tst.tt ?_); conv => whnf)
      | ((with_reducible refine Tst.ff ?_); conv => whnf)
      | ((with_reducible refine Tst.dec (fun _ => ?_) (fun _ => ?_)) <;> first | (exfalso; omega) | (conv => whnf))
      | ((with_reducible refine Tst.not ?_))
      | (refine Wit.conv ⟨by omega, by omega⟩ ?_; conv => whnf)
      | ((with_reducible refine IdxV.nat (by omega) ?_); conv => whnf)
      | ((with_reducible refine SameW.mk rfl ?_); conv => whnf)
      | (refine LoadV.mem (i := 0) (by assumption) rfl rfl ?_; conv => whnf)
      | (refine LoadV.mem (i := 1) (by assumption) rfl rfl ?_; conv => whnf)
      | (refine LoadV.mem (i := 2) (by assumption) rfl rfl ?_; conv => whnf)
      | ((with_reducible refine Tst.beqT ?_))
      | ((with_reducible refine Tst.beqF ?_))
      | (refine Tst.yes rfl ?_; conv => whnf)
      | (refine Tst.no rfl ?_; conv => whnf)))
  · have hil : i < t.length := by omega
    have hget : ∀ w' (_ : Ext w w'), ∃ b off, A = some ⟨b, off, none⟩ ∧ w'.cell? ⟨b, off + (i + 1) * 1, none⟩ = some (.int .i64 t[i]) := fun w' he' => by
      obtain ⟨b, off, e1, e2⟩ := (hA.ext he').at_ (by simp)
      refine ⟨b, off, e1, ?_⟩
      have := e2 (i + 1) (Int.ofNat t[i]) (by simp [hil]) 0 (.int .i64 t[i]) rfl
      simpa using this
    rw [List.drop_eq_getElem_cons hil, okT_cons] at h2
    obtain ⟨b, off, rfl, hc⟩ := hget w2 he
    refine ⟨b, off, i + 1, rfl, by omega, by omega, ?_⟩
    (conv => whnf)
    refine LoadV.of hc ?_
    (conv => whnf)
    refine CallV.of (refFollower_any _ w2) ?_
    rintro v w3 ⟨rfl, he3⟩
    have hf46 : followB 46 = false := by decide
    cases hf : followB t[i]
    · rw [hf, Bool.false_or] at h2
      (conv => whnf)
      (repeat' (first
      | (refine Obl.mk ⟨by omega, by omega⟩ ?_; conv => whnf)
      | (refine Obl.mk ⟨by omega, by omega, ⟨by omega, by omega⟩⟩ ?_; conv => whnf)
      | ((with_reducible refine Tst.tt ?_); conv => whnf)
      | ((with_reducible refine Tst.ff ?_); conv => whnf)
      | ((with_reducible refine Tst.dec (fun _ => ?_) (fun _ => ?_)) <;> first | (exfalso; omega) | (conv => whnf))
      | ((with_reducible refine Tst.not ?_))
      | (refine Wit.conv ⟨by omega, by omega⟩ ?_; conv => whnf)
      | ((with_reducible refine IdxV.nat (by omega) ?_); conv => whnf)
      | ((with_reducible refine SameW.mk rfl ?_); conv => whnf)
      | (refine LoadV.mem (i := 0) (by assumption) rfl rfl ?_; conv => whnf)
      | (refine LoadV.mem (i := 1) (by assumption) rfl rfl ?_; conv => whnf)
      | (refine LoadV.mem (i := 2) (by assumption) rfl rfl ?_; conv => whnf)
      | ((with_reducible refine Tst.beqT ?_))
      | ((with_reducible refine Tst.beqF ?_))
      | (refine Tst.yes rfl ?_; conv => whnf)
      | (refine Tst.no rfl ?_; conv => whnf)))
      refine ⟨b, off, i + 1, rfl, by omega, by omega, ?_⟩
      (conv => whnf)
      obtain ⟨b', off', e1, hc3⟩ := hget w3 (he.trans he3)
      cases e1
      (repeat' (first
      | (refine Obl.mk ⟨by omega, by omega⟩ ?_; conv => whnf)
      | (refine Obl.mk ⟨by omega, by omega, ⟨by omega, by omega⟩⟩ ?_; conv => whnf)
      | ((with_reducible refine Tst.tt ?_); conv => whnf)
      | ((with_reducible refine Tst.ff ?_); conv => whnf)
      | ((with_reducible refine Tst.dec (fun _ => ?_) (fun _ => ?_)) <;> first | (exfalso; omega) | (conv => whnf))
      | ((with_reducible refine Tst.not ?_))
      | (refine Wit.conv ⟨by omega, by omega⟩ ?_; conv => whnf)
      | ((with_reducible refine IdxV.nat (by omega) ?_); conv => whnf)
      | ((with_reducible refine SameW.mk rfl ?_); conv => whnf)
      | (refine LoadV.mem (i := 0) (by assumption) rfl rfl ?_; conv => whnf)
      | (refine LoadV.mem (i := 1) (by assumption) rfl rfl ?_; conv => whnf)
      | (refine LoadV.mem (i := 2) (by assumption) rfl rfl ?_; conv => whnf)
      | ((with_reducible refine Tst.beqT ?_))
      | ((with_reducible refine Tst.beqF ?_))
      | (refine Tst.yes rfl ?_; conv => whnf)
      | (refine Tst.no rfl ?_; conv => whnf)))
      refine LoadV.of hc3 ?_
      (conv => whnf)
      (repeat' (first
      | (refine Obl.mk ⟨by omega, by omega⟩ ?_; conv => whnf)
      | (refine Obl.mk ⟨by omega, by omega, ⟨by omega, by omega⟩⟩ ?_; conv => whnf)
      | ((with_reducible refine Tst.tt ?_); conv => whnf)
      | ((with_reducible refine Tst.ff ?_); conv => whnf)
      | ((with_reducible refine Tst.dec (fun _ => ?_) (fun _ => ?_)) <;> first | (exfalso; omega) | (conv => whnf))
      | ((with_reducible refine Tst.not ?_))
      | (refine Wit.conv ⟨by omega, by omega⟩ ?_; conv => whnf)
      | ((with_reducible refine IdxV.nat (by omega) ?_); conv => whnf)
      | ((with_reducible refine SameW.mk rfl ?_); conv => whnf)
      | (refine LoadV.mem (i := 0) (by assumption) rfl rfl ?_; conv => whnf)
      | (refine LoadV.mem (i := 1) (by assumption) rfl rfl ?_; conv => whnf)
      | (refine LoadV.mem (i := 2) (by assumption) rfl rfl ?_; conv => whnf)
      | ((with_reducible refine Tst.beqT ?_))
      | ((with_reducible refine Tst.beqF ?_))
      | (refine Tst.yes rfl ?_; conv => whnf)
      | (refine Tst.no rfl ?_; conv => whnf)))
      · refine ⟨congrArg Value.bool ?_, he.trans he3⟩
        rw [h2, decide_eq_false (by omega)]; rfl
      · refine ⟨congrArg Value.bool ?_, he.trans he3⟩
        rw [h2, decide_eq_true (by omega), List.drop_eq_nil_of_le (by omega)]; rfl
      · refine ⟨(i + 1, true), ⟨rfl, rfl, trivial⟩, ⟨by simp only; omega, ?_, by simp only; omega, he.trans he3⟩, by simp only; omega⟩
        rw [h2, decide_eq_true (by omega), Bool.true_and]
    · have hne : t[i] ≠ 46 := by intro e; rw [e] at hf; rw [show ((46 : Nat) : Int) = 46 from rfl, hf46] at hf; cases hf
      rw [hf, Bool.true_or, Bool.true_and, decide_eq_false hne] at h2
      (conv => whnf)
      (repeat' (first
      | (refine Obl.mk ⟨by omega, by omega⟩ ?_; conv => whnf)
      | (refine Obl.mk ⟨by omega, by omega, ⟨by omega, by omega⟩⟩ ?_; conv => whnf)
      | ((with_reducible refine Tst.tt ?_); conv => whnf)
      | ((with_reducible refine Tst.ff ?_); conv => whnf)
      | ((with_reducible refine Tst.dec (fun _ => ?_) (fun _ => ?_)) <;> first | (exfalso; omega) | (conv => whnf))
      | ((with_reducible refine Tst.not ?_))
      | (refine Wit.conv ⟨by omega, by omega⟩ ?_; conv => whnf)
      | ((with_reducible refine IdxV.nat (by omega) ?_); conv => whnf)
      | ((with_reducible refine SameW.mk rfl ?_); conv => whnf)
      | (refine LoadV.mem (i := 0) (by assumption) rfl rfl ?_; conv => whnf)
      | (refine LoadV.mem (i := 1) (by assumption) rfl rfl ?_; conv => whnf)
      | (refine LoadV.mem (i := 2) (by assumption) rfl rfl ?_; conv => whnf)
      | ((with_reducible refine Tst.beqT ?_))
      | ((with_reducible refine Tst.beqF ?_))
      | (refine Tst.yes rfl ?_; conv => whnf)
      | (refine Tst.no rfl ?_; conv => whnf)))
      exact ⟨(i + 1, false), ⟨rfl, rfl, trivial⟩, ⟨by simp only; omega, h2, by simp, he.trans he3⟩, by simp only; omega⟩
  · refine ⟨congrArg Value.bool ?_, he⟩
    have hi : i = t.length := by omega
    rw [h2, List.drop_eq_nil_of_le (by omega)]
    cases d with
    | false => rfl
    | true => have := h3 rfl; omega
theorem refLabel_any (s : ByteArray) (hs : s.size ≤ 4000000000000) (w : World) :
    Gv Tryz.prog 88 [.string s] w fun v w' => v = .int .i64 (labE s) ∧ Ext w w' := by
  have hsc := scalars_any s hs w
  have hno : labelB s = false → labE s = 60 := fun h => by rw [labE, if_neg (by rw [h]; simp)]
  have hyes : labelB s = true → labE s = 0 := fun h => by rw [labE, if_pos h]
  refine gv (by kernel_rfl) Tryz.func88 rfl Tryz.ntmps88 rfl ?_; conv => whnf
  refine CallV.of (hsc) ?_
  rintro v w1 ⟨⟨hn, rfl⟩ | ⟨l, A, c, hl, rfl, hA, hlen⟩, he⟩
  · have hL : labelB s = false := by rw [labelB, hn]
    (conv => whnf)
    (repeat' (first
      | (refine Obl.mk ⟨by omega, by omega⟩ ?_; conv => whnf)
      | (refine Obl.mk ⟨by omega, by omega, ⟨by omega, by omega⟩⟩ ?_; conv => whnf)
      | ((with_reducible refine Tst.tt ?_); conv => whnf)
      | ((with_reducible refine Tst.ff ?_); conv => whnf)
      | ((with_reducible refine Tst.dec (fun _ => ?_) (fun _ => ?_)) <;> first | (exfalso; omega) | (conv => whnf))
      | ((with_reducible refine Tst.not ?_))
      | (refine Wit.conv ⟨by omega, by omega⟩ ?_; conv => whnf)
      | ((with_reducible refine IdxV.nat (by omega) ?_); conv => whnf)
      | ((with_reducible refine SameW.mk rfl ?_); conv => whnf)
      | (refine LoadV.mem (i := 0) (by assumption) rfl rfl ?_; conv => whnf)
      | (refine LoadV.mem (i := 1) (by assumption) rfl rfl ?_; conv => whnf)
      | (refine LoadV.mem (i := 2) (by assumption) rfl rfl ?_; conv => whnf)
      | ((with_reducible refine Tst.beqT ?_))
      | ((with_reducible refine Tst.beqF ?_))
      | (refine Tst.yes rfl ?_; conv => whnf)
      | (refine Tst.no rfl ?_; conv => whnf)))
    exact ⟨by rw [hno hL]; rfl, he⟩
  · have hL : labelB s = labL l := by rw [labelB, hl]
    cases l with
    | nil =>
      simp only [List.length_nil]
      (conv => whnf)
      (repeat' (first
      | (refine Obl.mk ⟨by omega, by omega⟩ ?_; conv => whnf)
      | (refine Obl.mk ⟨by omega, by omega, ⟨by omega, by omega⟩⟩ ?_; conv => whnf)
      | ((with_reducible refine Tst.tt ?_); conv => whnf)
      | ((with_reducible refine Tst.ff ?_); conv => whnf)
      | ((with_reducible refine Tst.dec (fun _ => ?_) (fun _ => ?_)) <;> first | (exfalso; omega) | (conv => whnf))
      | ((with_reducible refine Tst.not ?_))
      | (refine Wit.conv ⟨by omega, by omega⟩ ?_; conv => whnf)
      | ((with_reducible refine IdxV.nat (by omega) ?_); conv => whnf)
      | ((with_reducible refine SameW.mk rfl ?_); conv => whnf)
      | (refine LoadV.mem (i := 0) (by assumption) rfl rfl ?_; conv => whnf)
      | (refine LoadV.mem (i := 1) (by assumption) rfl rfl ?_; conv => whnf)
      | (refine LoadV.mem (i := 2) (by assumption) rfl rfl ?_; conv => whnf)
      | ((with_reducible refine Tst.beqT ?_))
      | ((with_reducible refine Tst.beqF ?_))
      | (refine Tst.yes rfl ?_; conv => whnf)
      | (refine Tst.no rfl ?_; conv => whnf)))
      exact ⟨by rw [hno hL]; rfl, he⟩
    | cons r0 t =>
      have hL : labelB s = (labB r0 && okT false t) := hL
      have hget : ∀ w' (_ : Ext w1 w'), ∃ b off, A = some ⟨b, off, none⟩ ∧ w'.cell? ⟨b, off + 0 * 1, none⟩ = some (.int .i64 r0) := fun w' he' => by
        obtain ⟨b, off, e1, e2⟩ := (hA.ext he').at_ (by simp)
        exact ⟨b, off, e1, by simpa using e2 0 (Int.ofNat r0) (by simp) 0 (.int .i64 r0) rfl⟩
      obtain ⟨b, off, rfl, hc⟩ := hget w1 (Ext.refl _)
      simp only [List.length_cons] at hlen ⊢
      (conv => whnf)
      (repeat' (first
      | (refine Obl.mk ⟨by omega, by omega⟩ ?_; conv => whnf)
      | (refine Obl.mk ⟨by omega, by omega, ⟨by omega, by omega⟩⟩ ?_; conv => whnf)
      | ((with_reducible refine Tst.tt ?_); conv => whnf)
      | ((with_reducible refine Tst.ff ?_); conv => whnf)
      | ((with_reducible refine Tst.dec (fun _ => ?_) (fun _ => ?_)) <;> first | (exfalso; omega) | (conv => whnf))
      | ((with_reducible refine Tst.not ?_))
      | (refine Wit.conv ⟨by omega, by omega⟩ ?_; conv => whnf)
      | ((with_reducible refine IdxV.nat (by omega) ?_); conv => whnf)
      | ((with_reducible refine SameW.mk rfl ?_); conv => whnf)
      | (refine LoadV.mem (i := 0) (by assumption) rfl rfl ?_; conv => whnf)
      | (refine LoadV.mem (i := 1) (by assumption) rfl rfl ?_; conv => whnf)
      | (refine LoadV.mem (i := 2) (by assumption) rfl rfl ?_; conv => whnf)
      | ((with_reducible refine Tst.beqT ?_))
      | ((with_reducible refine Tst.beqF ?_))
      | (refine Tst.yes rfl ?_; conv => whnf)
      | (refine Tst.no rfl ?_; conv => whnf)))
      refine ⟨b, off, 0, rfl, by omega, by omega, ?_⟩
      (conv => whnf)
      (repeat' (first
      | (refine Obl.mk ⟨by omega, by omega⟩ ?_; conv => whnf)
      | (refine Obl.mk ⟨by omega, by omega, ⟨by omega, by omega⟩⟩ ?_; conv => whnf)
      | ((with_reducible refine Tst.tt ?_); conv => whnf)
      | ((with_reducible refine Tst.ff ?_); conv => whnf)
      | ((with_reducible refine Tst.dec (fun _ => ?_) (fun _ => ?_)) <;> first | (exfalso; omega) | (conv => whnf))
      | ((with_reducible refine Tst.not ?_))
      | (refine Wit.conv ⟨by omega, by omega⟩ ?_; conv => whnf)
      | ((with_reducible refine IdxV.nat (by omega) ?_); conv => whnf)
      | ((with_reducible refine SameW.mk rfl ?_); conv => whnf)
      | (refine LoadV.mem (i := 0) (by assumption) rfl rfl ?_; conv => whnf)
      | (refine LoadV.mem (i := 1) (by assumption) rfl rfl ?_; conv => whnf)
      | (refine LoadV.mem (i := 2) (by assumption) rfl rfl ?_; conv => whnf)
      | ((with_reducible refine Tst.beqT ?_))
      | ((with_reducible refine Tst.beqF ?_))
      | (refine Tst.yes rfl ?_; conv => whnf)
      | (refine Tst.no rfl ?_; conv => whnf)))
      refine LoadV.of hc ?_
      (conv => whnf)
      (repeat' (first
      | (refine Obl.mk ⟨by omega, by omega⟩ ?_; conv => whnf)
      | (refine Obl.mk ⟨by omega, by omega, ⟨by omega, by omega⟩⟩ ?_; conv => whnf)
      | ((with_reducible refine Tst.tt ?_); conv => whnf)
      | ((with_reducible refine Tst.ff ?_); conv => whnf)
      | ((with_reducible refine Tst.dec (fun _ => ?_) (fun _ => ?_)) <;> first | (exfalso; omega) | (conv => whnf))
      | ((with_reducible refine Tst.not ?_))
      | (refine Wit.conv ⟨by omega, by omega⟩ ?_; conv => whnf)
      | ((with_reducible refine IdxV.nat (by omega) ?_); conv => whnf)
      | ((with_reducible refine SameW.mk rfl ?_); conv => whnf)
      | (refine LoadV.mem (i := 0) (by assumption) rfl rfl ?_; conv => whnf)
      | (refine LoadV.mem (i := 1) (by assumption) rfl rfl ?_; conv => whnf)
      | (refine LoadV.mem (i := 2) (by assumption) rfl rfl ?_; conv => whnf)
      | ((with_reducible refine Tst.beqT ?_))
      | ((with_reducible refine Tst.beqF ?_))
      | (refine Tst.yes rfl ?_; conv => whnf)
      | (refine Tst.no rfl ?_; conv => whnf)))
      refine CallV.of (refStarter_any _ w1) ?_
      rintro v w2 ⟨rfl, he2⟩
      cases hS : startB r0
      · (conv => whnf)
        (repeat' (first
      | (refine Obl.mk ⟨by omega, by omega⟩ ?_; conv => whnf)
      | (refine Obl.mk ⟨by omega, by omega, ⟨by omega, by omega⟩⟩ ?_; conv => whnf)
      | ((with_reducible refine Tst.tt ?_); conv => whnf)
      | ((with_reducible refine Tst.ff ?_); conv => whnf)
      | ((with_reducible refine Tst.dec (fun _ => ?_) (fun _ => ?_)) <;> first | (exfalso; omega) | (conv => whnf))
      | ((with_reducible refine Tst.not ?_))
      | (refine Wit.conv ⟨by omega, by omega⟩ ?_; conv => whnf)
      | ((with_reducible refine IdxV.nat (by omega) ?_); conv => whnf)
      | ((with_reducible refine SameW.mk rfl ?_); conv => whnf)
      | (refine LoadV.mem (i := 0) (by assumption) rfl rfl ?_; conv => whnf)
      | (refine LoadV.mem (i := 1) (by assumption) rfl rfl ?_; conv => whnf)
      | (refine LoadV.mem (i := 2) (by assumption) rfl rfl ?_; conv => whnf)
      | ((with_reducible refine Tst.beqT ?_))
      | ((with_reducible refine Tst.beqF ?_))
      | (refine Tst.yes rfl ?_; conv => whnf)
      | (refine Tst.no rfl ?_; conv => whnf)))
        refine ⟨b, off, 0, rfl, by omega, by omega, ?_⟩
        (conv => whnf)
        (repeat' (first
      | (refine Obl.mk ⟨by omega, by omega⟩ ?_; conv => whnf)
      | (refine Obl.mk ⟨by omega, by omega, ⟨by omega, by omega⟩⟩ ?_; conv => whnf)
      | ((with_reducible refine Tst.tt ?_); conv => whnf)
      | ((with_reducible refine Tst.ff ?_); conv => whnf)
      | ((with_reducible refine Tst.dec (fun _ => ?_) (fun _ => ?_)) <;> first | (exfalso; omega) | (conv => whnf))
      | ((with_reducible refine Tst.not ?_))
      | (refine Wit.conv ⟨by omega, by omega⟩ ?_; conv => whnf)
      | ((with_reducible refine IdxV.nat (by omega) ?_); conv => whnf)
      | ((with_reducible refine SameW.mk rfl ?_); conv => whnf)
      | (refine LoadV.mem (i := 0) (by assumption) rfl rfl ?_; conv => whnf)
      | (refine LoadV.mem (i := 1) (by assumption) rfl rfl ?_; conv => whnf)
      | (refine LoadV.mem (i := 2) (by assumption) rfl rfl ?_; conv => whnf)
      | ((with_reducible refine Tst.beqT ?_))
      | ((with_reducible refine Tst.beqF ?_))
      | (refine Tst.yes rfl ?_; conv => whnf)
      | (refine Tst.no rfl ?_; conv => whnf)))
        obtain ⟨b', off', e1, hc2⟩ := hget w2 he2
        cases e1
        refine LoadV.of hc2 ?_
        (conv => whnf)
        (repeat' (first
      | (refine Obl.mk ⟨by omega, by omega⟩ ?_; conv => whnf)
      | (refine Obl.mk ⟨by omega, by omega, ⟨by omega, by omega⟩⟩ ?_; conv => whnf)
      | ((with_reducible refine Tst.tt ?_); conv => whnf)
      | ((with_reducible refine Tst.ff ?_); conv => whnf)
      | ((with_reducible refine Tst.dec (fun _ => ?_) (fun _ => ?_)) <;> first | (exfalso; omega) | (conv => whnf))
      | ((with_reducible refine Tst.not ?_))
      | (refine Wit.conv ⟨by omega, by omega⟩ ?_; conv => whnf)
      | ((with_reducible refine IdxV.nat (by omega) ?_); conv => whnf)
      | ((with_reducible refine SameW.mk rfl ?_); conv => whnf)
      | (refine LoadV.mem (i := 0) (by assumption) rfl rfl ?_; conv => whnf)
      | (refine LoadV.mem (i := 1) (by assumption) rfl rfl ?_; conv => whnf)
      | (refine LoadV.mem (i := 2) (by assumption) rfl rfl ?_; conv => whnf)
      | ((with_reducible refine Tst.beqT ?_))
      | ((with_reducible refine Tst.beqF ?_))
      | (refine Tst.yes rfl ?_; conv => whnf)
      | (refine Tst.no rfl ?_; conv => whnf)))
        refine CallV.of (refDigitN_any _ w2) ?_
        rintro v w3 ⟨rfl, rfl⟩
        cases hD : digN r0
        · have hb : labelB s = false := by rw [hL, labB, hS, hD]; rfl
          (conv => whnf)
          (repeat' (first
      | (refine Obl.mk ⟨by omega, by omega⟩ ?_; conv => whnf)
      | (refine Obl.mk ⟨by omega, by omega, ⟨by omega, by omega⟩⟩ ?_; conv => whnf)
      | ((with_reducible refine Tst.tt ?_); conv => whnf)
      | ((with_reducible refine Tst.ff ?_); conv => whnf)
      | ((with_reducible refine Tst.dec (fun _ => ?_) (fun _ => ?_)) <;> first | (exfalso; omega) | (conv => whnf))
      | ((with_reducible refine Tst.not ?_))
      | (refine Wit.conv ⟨by omega, by omega⟩ ?_; conv => whnf)
      | ((with_reducible refine IdxV.nat (by omega) ?_); conv => whnf)
      | ((with_reducible refine SameW.mk rfl ?_); conv => whnf)
      | (refine LoadV.mem (i := 0) (by assumption) rfl rfl ?_; conv => whnf)
      | (refine LoadV.mem (i := 1) (by assumption) rfl rfl ?_; conv => whnf)
      | (refine LoadV.mem (i := 2) (by assumption) rfl rfl ?_; conv => whnf)
      | ((with_reducible refine Tst.beqT ?_))
      | ((with_reducible refine Tst.beqF ?_))
      | (refine Tst.yes rfl ?_; conv => whnf)
      | (refine Tst.no rfl ?_; conv => whnf)))
          exact ⟨by rw [hno hb]; rfl, he.trans he2⟩
        · have hb : labB r0 = true := by rw [labB, hS, hD]; rfl
          (conv => whnf)
          (repeat' (first
      | (refine Obl.mk ⟨by omega, by omega⟩ ?_; conv => whnf)
      | (refine Obl.mk ⟨by omega, by omega, ⟨by omega, by omega⟩⟩ ?_; conv => whnf)
      | ((with_reducible refine Tst.tt ?_); conv => whnf)
      | ((with_reducible refine Tst.ff ?_); conv => whnf)
      | ((with_reducible refine Tst.dec (fun _ => ?_) (fun _ => ?_)) <;> first | (exfalso; omega) | (conv => whnf))
      | ((with_reducible refine Tst.not ?_))
      | (refine Wit.conv ⟨by omega, by omega⟩ ?_; conv => whnf)
      | ((with_reducible refine IdxV.nat (by omega) ?_); conv => whnf)
      | ((with_reducible refine SameW.mk rfl ?_); conv => whnf)
      | (refine LoadV.mem (i := 0) (by assumption) rfl rfl ?_; conv => whnf)
      | (refine LoadV.mem (i := 1) (by assumption) rfl rfl ?_; conv => whnf)
      | (refine LoadV.mem (i := 2) (by assumption) rfl rfl ?_; conv => whnf)
      | ((with_reducible refine Tst.beqT ?_))
      | ((with_reducible refine Tst.beqF ?_))
      | (refine Tst.yes rfl ?_; conv => whnf)
      | (refine Tst.no rfl ?_; conv => whnf)))
          refine CallV.of (shaped_any r0 t _ c w3 (hA.ext he2) (by omega)) ?_
          rintro v w4 ⟨rfl, he4⟩
          have hx := he.trans (he2.trans he4)
          cases hO : okT false t
          · have hb : labelB s = false := by rw [hL, hO, Bool.and_false]
            (conv => whnf)
            (repeat' (first
      | (refine Obl.mk ⟨by omega, by omega⟩ ?_; conv => whnf)
      | (refine Obl.mk ⟨by omega, by omega, ⟨by omega, by omega⟩⟩ ?_; conv => whnf)
      | ((with_reducible refine Tst.tt ?_); conv => whnf)
      | ((with_reducible refine Tst.ff ?_); conv => whnf)
      | ((with_reducible refine Tst.dec (fun _ => ?_) (fun _ => ?_)) <;> first | (exfalso; omega) | (conv => whnf))
      | ((with_reducible refine Tst.not ?_))
      | (refine Wit.conv ⟨by omega, by omega⟩ ?_; conv => whnf)
      | ((with_reducible refine IdxV.nat (by omega) ?_); conv => whnf)
      | ((with_reducible refine SameW.mk rfl ?_); conv => whnf)
      | (refine LoadV.mem (i := 0) (by assumption) rfl rfl ?_; conv => whnf)
      | (refine LoadV.mem (i := 1) (by assumption) rfl rfl ?_; conv => whnf)
      | (refine LoadV.mem (i := 2) (by assumption) rfl rfl ?_; conv => whnf)
      | ((with_reducible refine Tst.beqT ?_))
      | ((with_reducible refine Tst.beqF ?_))
      | (refine Tst.yes rfl ?_; conv => whnf)
      | (refine Tst.no rfl ?_; conv => whnf)))
            exact ⟨by rw [hno hb]; rfl, hx⟩
          · have hb : labelB s = true := by rw [hL, hb, hO]; rfl
            (conv => whnf)
            (repeat' (first
      | (refine Obl.mk ⟨by omega, by omega⟩ ?_; conv => whnf)
      | (refine Obl.mk ⟨by omega, by omega, ⟨by omega, by omega⟩⟩ ?_; conv => whnf)
      | ((with_reducible refine Tst.tt ?_); conv => whnf)
      | ((with_reducible refine Tst.ff ?_); conv => whnf)
      | ((with_reducible refine Tst.dec (fun _ => ?_) (fun _ => ?_)) <;> first | (exfalso; omega) | (conv => whnf))
      | ((with_reducible refine Tst.not ?_))
      | (refine Wit.conv ⟨by omega, by omega⟩ ?_; conv => whnf)
      | ((with_reducible refine IdxV.nat (by omega) ?_); conv => whnf)
      | ((with_reducible refine SameW.mk rfl ?_); conv => whnf)
      | (refine LoadV.mem (i := 0) (by assumption) rfl rfl ?_; conv => whnf)
      | (refine LoadV.mem (i := 1) (by assumption) rfl rfl ?_; conv => whnf)
      | (refine LoadV.mem (i := 2) (by assumption) rfl rfl ?_; conv => whnf)
      | ((with_reducible refine Tst.beqT ?_))
      | ((with_reducible refine Tst.beqF ?_))
      | (refine Tst.yes rfl ?_; conv => whnf)
      | (refine Tst.no rfl ?_; conv => whnf)))
            exact ⟨by rw [hyes hb]; rfl, hx⟩
      · have hb : labB r0 = true := by rw [labB, hS]; rfl
        (conv => whnf)
        (repeat' (first
      | (refine Obl.mk ⟨by omega, by omega⟩ ?_; conv => whnf)
      | (refine Obl.mk ⟨by omega, by omega, ⟨by omega, by omega⟩⟩ ?_; conv => whnf)
      | ((with_reducible refine Tst.tt ?_); conv => whnf)
      | ((with_reducible refine Tst.ff ?_); conv => whnf)
      | ((with_reducible refine Tst.dec (fun _ => ?_) (fun _ => ?_)) <;> first | (exfalso; omega) | (conv => whnf))
      | ((with_reducible refine Tst.not ?_))
      | (refine Wit.conv ⟨by omega, by omega⟩ ?_; conv => whnf)
      | ((with_reducible refine IdxV.nat (by omega) ?_); conv => whnf)
      | ((with_reducible refine SameW.mk rfl ?_); conv => whnf)
      | (refine LoadV.mem (i := 0) (by assumption) rfl rfl ?_; conv => whnf)
      | (refine LoadV.mem (i := 1) (by assumption) rfl rfl ?_; conv => whnf)
      | (refine LoadV.mem (i := 2) (by assumption) rfl rfl ?_; conv => whnf)
      | ((with_reducible refine Tst.beqT ?_))
      | ((with_reducible refine Tst.beqF ?_))
      | (refine Tst.yes rfl ?_; conv => whnf)
      | (refine Tst.no rfl ?_; conv => whnf)))
        refine CallV.of (shaped_any r0 t _ c w2 (hA.ext he2) (by omega)) ?_
        rintro v w4 ⟨rfl, he4⟩
        have hx := he.trans (he2.trans he4)
        cases hO : okT false t
        · have hb : labelB s = false := by rw [hL, hO, Bool.and_false]
          (conv => whnf)
          (repeat' (first
      | (refine Obl.mk ⟨by omega, by omega⟩ ?_; conv => whnf)
      | (refine Obl.mk ⟨by omega, by omega, ⟨by omega, by omega⟩⟩ ?_; conv => whnf)
      | ((with_reducible refine Tst.tt ?_); conv => whnf)
      | ((with_reducible refine Tst.ff ?_); conv => whnf)
      | ((with_reducible refine Tst.dec (fun _ => ?_) (fun _ => ?_)) <;> first | (exfalso; omega) | (conv => whnf))
      | ((with_reducible refine Tst.not ?_))
      | (refine Wit.conv ⟨by omega, by omega⟩ ?_; conv => whnf)
      | ((with_reducible refine IdxV.nat (by omega) ?_); conv => whnf)
      | ((with_reducible refine SameW.mk rfl ?_); conv => whnf)
      | (refine LoadV.mem (i := 0) (by assumption) rfl rfl ?_; conv => whnf)
      | (refine LoadV.mem (i := 1) (by assumption) rfl rfl ?_; conv => whnf)
      | (refine LoadV.mem (i := 2) (by assumption) rfl rfl ?_; conv => whnf)
      | ((with_reducible refine Tst.beqT ?_))
      | ((with_reducible refine Tst.beqF ?_))
      | (refine Tst.yes rfl ?_; conv => whnf)
      | (refine Tst.no rfl ?_; conv => whnf)))
          exact ⟨by rw [hno hb]; rfl, hx⟩
        · have hb : labelB s = true := by rw [hL, hb, hO]; rfl
          (conv => whnf)
          (repeat' (first
      | (refine Obl.mk ⟨by omega, by omega⟩ ?_; conv => whnf)
      | (refine Obl.mk ⟨by omega, by omega, ⟨by omega, by omega⟩⟩ ?_; conv => whnf)
      | ((with_reducible refine Tst.tt ?_); conv => whnf)
      | ((with_reducible refine Tst.ff ?_); conv => whnf)
      | ((with_reducible refine Tst.dec (fun _ => ?_) (fun _ => ?_)) <;> first | (exfalso; omega) | (conv => whnf))
      | ((with_reducible refine Tst.not ?_))
      | (refine Wit.conv ⟨by omega, by omega⟩ ?_; conv => whnf)
      | ((with_reducible refine IdxV.nat (by omega) ?_); conv => whnf)
      | ((with_reducible refine SameW.mk rfl ?_); conv => whnf)
      | (refine LoadV.mem (i := 0) (by assumption) rfl rfl ?_; conv => whnf)
      | (refine LoadV.mem (i := 1) (by assumption) rfl rfl ?_; conv => whnf)
      | (refine LoadV.mem (i := 2) (by assumption) rfl rfl ?_; conv => whnf)
      | ((with_reducible refine Tst.beqT ?_))
      | ((with_reducible refine Tst.beqF ?_))
      | (refine Tst.yes rfl ?_; conv => whnf)
      | (refine Tst.no rfl ?_; conv => whnf)))
          exact ⟨by rw [hyes hb]; rfl, hx⟩
end Go.Proofs.YtajgbepghniciaaGreatDoor
