/- Lemmas and contracts of functions on the way to the law's card (part 6 of 17). -/
import Derived.Test.YtajgbepghniciaaGreatDoorJC5
namespace Go.Proofs.YtajgbepghniciaaGreatDoor
open Go.RowKit V
set_option maxRecDepth 100000

theorem refBarred_any (c : UInt8) (w : World) :
    Gv Tryz.prog 128 [.int .u8 c.toNat] w fun v w' => v = .bool (barB c) ∧ w' = w := by
  have hc := c.toNat_lt
  have hm : barB c = true ↔ (c.toNat ≤ 32 ∨ c.toNat = 60 ∨ c.toNat = 62 ∨ c.toNat = 34 ∨ c.toNat = 123 ∨ c.toNat = 125 ∨ c.toNat = 124 ∨ c.toNat = 94 ∨ c.toNat = 96 ∨ c.toNat = 92) := by
    have e : ∀ n : Nat, n < 256 → (c = UInt8.ofNat n ↔ c.toNat = n) := fun n hn => by
      rw [← UInt8.toNat_inj, UInt8.toNat_ofNat']; constructor <;> intro h <;> omega
    simp only [barB, decide_eq_true_iff, signs, List.mem_cons, List.not_mem_nil, or_false]
    rw [show (60 : UInt8) = UInt8.ofNat 60 from rfl, show (62 : UInt8) = UInt8.ofNat 62 from rfl, show (34 : UInt8) = UInt8.ofNat 34 from rfl, show (123 : UInt8) = UInt8.ofNat 123 from rfl, show (125 : UInt8) = UInt8.ofNat 125 from rfl,
      show (124 : UInt8) = UInt8.ofNat 124 from rfl, show (94 : UInt8) = UInt8.ofNat 94 from rfl, show (96 : UInt8) = UInt8.ofNat 96 from rfl, show (92 : UInt8) = UInt8.ofNat 92 from rfl]
    rw [e _ (by omega), e _ (by omega), e _ (by omega), e _ (by omega), e _ (by omega), e _ (by omega), e _ (by omega), e _ (by omega), e _ (by omega)]
  refine gv (by kernel_rfl) Tryz.func128 rfl Tryz.ntmps128 rfl ?_; conv => whnf
  (repeat' (first
      | (refine Obl.mk ⟨by omega, by omega⟩ ?_; conv => whnf)
      | (refine Obl.mk ⟨by omega, by omega, ⟨by omega, by omega⟩⟩ ?_; conv => whnf)
      | ((with_reducible refine Tst.tt ?_); conv => whnf)
      | ((with_reducible refine Tst.ff ?_); conv => whnf)
      | ((with_reducible refine Tst.dec (fun _ => ?_) (fun _ => ?_)) <;> first | (exfalso; omega) | (conv => whnf))
      | ((with_reducible refine Tst.not ?_))
      | (refine Wit.conv ⟨by omega, by omega⟩ ?_; conv => whnf)
      | ((with_reducible refine IdxV.nat (by omega) ?_); conv => whnf)
      | ((with_reducible refine SameW.mk rfl ?_); conv => whnf)
      | (refine LoadV.mem (i := 0) (by assumption) rfl rfl ?_; conv => whnf)
      | (refine LoadV.mem (i := 1) (by assumption) rfl rfl ?_; conv => whnf)
      | (refine LoadV.mem (i := 2) (by assumption) rfl rfl ?_; conv => whnf)
      | ((with_reducible refine Tst.beqT ?_))
      | ((with_reducible refine Tst.beqF ?_))
      | (refine Tst.yes rfl ?_; conv => whnf)
      | (refine Tst.no rfl ?_; conv => whnf)))
  all_goals (refine ⟨congrArg Value.bool ?_, rfl⟩; rw [Bool.eq_iff_iff, hm]; simp; try omega)

theorem refLetter_any (c : UInt8) (w : World) :
    Gv Tryz.prog 129 [.int .u8 c.toNat] w fun v w' => v = .bool (letterB c) ∧ w' = w := by
  have hc := c.toNat_lt
  refine gv (by kernel_rfl) Tryz.func129 rfl Tryz.ntmps129 rfl ?_; conv => whnf
  (repeat' (first
      | (refine Obl.mk ⟨by omega, by omega⟩ ?_; conv => whnf)
      | (refine Obl.mk ⟨by omega, by omega, ⟨by omega, by omega⟩⟩ ?_; conv => whnf)
      | ((with_reducible refine Tst.tt ?_); conv => whnf)
      | ((with_reducible refine Tst.ff ?_); conv => whnf)
      | ((with_reducible refine Tst.dec (fun _ => ?_) (fun _ => ?_)) <;> first | (exfalso; omega) | (conv => whnf))
      | ((with_reducible refine Tst.not ?_))
      | (refine Wit.conv ⟨by omega, by omega⟩ ?_; conv => whnf)
      | ((with_reducible refine IdxV.nat (by omega) ?_); conv => whnf)
      | ((with_reducible refine SameW.mk rfl ?_); conv => whnf)
      | (refine LoadV.mem (i := 0) (by assumption) rfl rfl ?_; conv => whnf)
      | (refine LoadV.mem (i := 1) (by assumption) rfl rfl ?_; conv => whnf)
      | (refine LoadV.mem (i := 2) (by assumption) rfl rfl ?_; conv => whnf)
      | ((with_reducible refine Tst.beqT ?_))
      | ((with_reducible refine Tst.beqF ?_))
      | (refine Tst.yes rfl ?_; conv => whnf)
      | (refine Tst.no rfl ?_; conv => whnf)))
  all_goals (refine ⟨congrArg Value.bool ?_, rfl⟩; rw [Bool.eq_iff_iff]; simp [letterB]; try omega)

theorem refDigit_any (c : UInt8) (w : World) :
    Gv Tryz.prog 130 [.int .u8 c.toNat] w fun v w' => v = .bool (decide (48 ≤ c.toNat ∧ c.toNat ≤ 57)) ∧ w' = w := by
  have hc := c.toNat_lt
  refine gv (by kernel_rfl) Tryz.func130 rfl Tryz.ntmps130 rfl ?_; conv => whnf
  (repeat' (first
      | (refine Obl.mk ⟨by omega, by omega⟩ ?_; conv => whnf)
      | (refine Obl.mk ⟨by omega, by omega, ⟨by omega, by omega⟩⟩ ?_; conv => whnf)
      | ((with_reducible refine Tst.tt ?_); conv => whnf)
      | ((with_reducible refine Tst.ff ?_); conv => whnf)
      | ((with_reducible refine Tst.dec (fun _ => ?_) (fun _ => ?_)) <;> first | (exfalso; omega) | (conv => whnf))
      | ((with_reducible refine Tst.not ?_))
      | (refine Wit.conv ⟨by omega, by omega⟩ ?_; conv => whnf)
      | ((with_reducible refine IdxV.nat (by omega) ?_); conv => whnf)
      | ((with_reducible refine SameW.mk rfl ?_); conv => whnf)
      | (refine LoadV.mem (i := 0) (by assumption) rfl rfl ?_; conv => whnf)
      | (refine LoadV.mem (i := 1) (by assumption) rfl rfl ?_; conv => whnf)
      | (refine LoadV.mem (i := 2) (by assumption) rfl rfl ?_; conv => whnf)
      | ((with_reducible refine Tst.beqT ?_))
      | ((with_reducible refine Tst.beqF ?_))
      | (refine Tst.yes rfl ?_; conv => whnf)
      | (refine Tst.no rfl ?_; conv => whnf)))
  all_goals (refine ⟨congrArg Value.bool ?_, rfl⟩; rw [Bool.eq_iff_iff]; simp; try omega)

theorem any_take_succ (s : ByteArray) (p : Nat) (hp : p < s.size) (h : (s.data.toList.take p).any barB = false) : (s.data.toList.take (p + 1)).any barB = barB (gb s p) := by
  rw [get_take (by simpa using hp), List.any_append, h, Bool.false_or]
  simp [gb]
theorem refReference_any (s : ByteArray) (hs : s.size ≤ 140737488355328) (w : World) :
    Gv Tryz.prog 78 [.string s] w fun v w' => v = .int .i64 (refE s) ∧ Ext w w' := by
  refine gv (by kernel_rfl) Tryz.func78 rfl Tryz.ntmps78 rfl ?_; conv => whnf
  (repeat' (first
      | (refine Obl.mk ⟨by omega, by omega⟩ ?_; conv => whnf)
      | (refine Obl.mk ⟨by omega, by omega, ⟨by omega, by omega⟩⟩ ?_; conv => whnf)
      | ((with_reducible refine Tst.tt ?_); conv => whnf)
      | ((with_reducible refine Tst.ff ?_); conv => whnf)
      | ((with_reducible refine Tst.dec (fun _ => ?_) (fun _ => ?_)) <;> first | (exfalso; omega) | (conv => whnf))
      | ((with_reducible refine Tst.not ?_))
      | (refine Wit.conv ⟨by omega, by omega⟩ ?_; conv => whnf)
      | ((with_reducible refine IdxV.nat (by omega) ?_); conv => whnf)
      | ((with_reducible refine SameW.mk rfl ?_); conv => whnf)
      | (refine LoadV.mem (i := 0) (by assumption) rfl rfl ?_; conv => whnf)
      | (refine LoadV.mem (i := 1) (by assumption) rfl rfl ?_; conv => whnf)
      | (refine LoadV.mem (i := 2) (by assumption) rfl rfl ?_; conv => whnf)
      | ((with_reducible refine Tst.beqT ?_))
      | ((with_reducible refine Tst.beqF ?_))
      | (refine Tst.yes rfl ?_; conv => whnf)
      | (refine Tst.no rfl ?_; conv => whnf)))
  · exact ⟨by rw [refE, if_pos (by omega)]; rfl, Ext.refl _⟩
  · refine CallV.of (refCheck_any s hs _) ?_
    rintro v w1 ⟨⟨i, rfl, h1, h2, h3⟩, he⟩
    (conv => whnf)
    (repeat' (first
      | (refine Obl.mk ⟨by omega, by omega⟩ ?_; conv => whnf)
      | (refine Obl.mk ⟨by omega, by omega, ⟨by omega, by omega⟩⟩ ?_; conv => whnf)
      | ((with_reducible refine Tst.tt ?_); conv => whnf)
      | ((with_reducible refine Tst.ff ?_); conv => whnf)
      | ((with_reducible refine Tst.dec (fun _ => ?_) (fun _ => ?_)) <;> first | (exfalso; omega) | (conv => whnf))
      | ((with_reducible refine Tst.not ?_))
      | (refine Wit.conv ⟨by omega, by omega⟩ ?_; conv => whnf)
      | ((with_reducible refine IdxV.nat (by omega) ?_); conv => whnf)
      | ((with_reducible refine SameW.mk rfl ?_); conv => whnf)
      | (refine LoadV.mem (i := 0) (by assumption) rfl rfl ?_; conv => whnf)
      | (refine LoadV.mem (i := 1) (by assumption) rfl rfl ?_; conv => whnf)
      | (refine LoadV.mem (i := 2) (by assumption) rfl rfl ?_; conv => whnf)
      | ((with_reducible refine Tst.beqT ?_))
      | ((with_reducible refine Tst.beqF ?_))
      | (refine Tst.yes rfl ?_; conv => whnf)
      | (refine Tst.no rfl ?_; conv => whnf)))
    · refine ⟨?_, he⟩
      rw [refE, if_neg (by omega), if_pos (by by_cases hh : scal s.data.toList = none; exact hh; exact absurd (h2 hh) (by omega))]; rfl
    · have hsc : scal s.data.toList ≠ none := fun hh => by have := h3 hh; omega
      refine loopV (fun p : Nat => [(0, .string s), (3, .int .i64 p)]) (fun p w2 => p ≤ s.size ∧ w2 = w1 ∧ (s.data.toList.take p).any barB = false) (fun p => s.size - p) 0 ⟨rfl, rfl, trivial⟩ ⟨by omega, rfl, by simp⟩ ?_
      rintro p w2 ρ' ⟨hp, rfl, ha⟩
      (conv => whnf)
      (repeat' (first
      | (refine Obl.mk ⟨by omega, by omega⟩ ?_; conv => whnf)
      | (refine Obl.mk ⟨by omega, by omega, ⟨by omega, by omega⟩⟩ ?_; conv => whnf)
      | ((with_reducible refine Tst.tt ?_); conv => whnf)
      | ((with_reducible refine Tst.ff ?_); conv => whnf)
      | ((with_reducible refine Tst.dec (fun _ => ?_) (fun _ => ?_)) <;> first | (exfalso; omega) | (conv => whnf))
      | ((with_reducible refine Tst.not ?_))
      | (refine Wit.conv ⟨by omega, by omega⟩ ?_; conv => whnf)
      | ((with_reducible refine IdxV.nat (by omega) ?_); conv => whnf)
      | ((with_reducible refine SameW.mk rfl ?_); conv => whnf)
      | (refine LoadV.mem (i := 0) (by assumption) rfl rfl ?_; conv => whnf)
      | (refine LoadV.mem (i := 1) (by assumption) rfl rfl ?_; conv => whnf)
      | (refine LoadV.mem (i := 2) (by assumption) rfl rfl ?_; conv => whnf)
      | ((with_reducible refine Tst.beqT ?_))
      | ((with_reducible refine Tst.beqF ?_))
      | (refine Tst.yes rfl ?_; conv => whnf)
      | (refine Tst.no rfl ?_; conv => whnf)))
      · refine CallV.of (refBarred_any (gb s p) _) ?_
        rintro v w3 ⟨rfl, rfl⟩
        (conv => whnf)
        have hat := any_take_succ s p (by omega) ha
        cases hb : barB (gb s p)
        · rw [hb] at hat
          (repeat' (first
      | (refine Obl.mk ⟨by omega, by omega⟩ ?_; conv => whnf)
      | (refine Obl.mk ⟨by omega, by omega, ⟨by omega, by omega⟩⟩ ?_; conv => whnf)
      | ((with_reducible refine Tst.tt ?_); conv => whnf)
      | ((with_reducible refine Tst.ff ?_); conv => whnf)
      | ((with_reducible refine Tst.dec (fun _ => ?_) (fun _ => ?_)) <;> first | (exfalso; omega) | (conv => whnf))
      | ((with_reducible refine Tst.not ?_))
      | (refine Wit.conv ⟨by omega, by omega⟩ ?_; conv => whnf)
      | ((with_reducible refine IdxV.nat (by omega) ?_); conv => whnf)
      | ((with_reducible refine SameW.mk rfl ?_); conv => whnf)
      | (refine LoadV.mem (i := 0) (by assumption) rfl rfl ?_; conv => whnf)
      | (refine LoadV.mem (i := 1) (by assumption) rfl rfl ?_; conv => whnf)
      | (refine LoadV.mem (i := 2) (by assumption) rfl rfl ?_; conv => whnf)
      | ((with_reducible refine Tst.beqT ?_))
      | ((with_reducible refine Tst.beqF ?_))
      | (refine Tst.yes rfl ?_; conv => whnf)
      | (refine Tst.no rfl ?_; conv => whnf)))
          exact ⟨p + 1, ⟨rfl, rfl, trivial⟩, ⟨by omega, rfl, hat⟩, by omega⟩
        · rw [hb] at hat
          (repeat' (first
      | (refine Obl.mk ⟨by omega, by omega⟩ ?_; conv => whnf)
      | (refine Obl.mk ⟨by omega, by omega, ⟨by omega, by omega⟩⟩ ?_; conv => whnf)
      | ((with_reducible refine Tst.tt ?_); conv => whnf)
      | ((with_reducible refine Tst.ff ?_); conv => whnf)
      | ((with_reducible refine Tst.dec (fun _ => ?_) (fun _ => ?_)) <;> first | (exfalso; omega) | (conv => whnf))
      | ((with_reducible refine Tst.not ?_))
      | (refine Wit.conv ⟨by omega, by omega⟩ ?_; conv => whnf)
      | ((with_reducible refine IdxV.nat (by omega) ?_); conv => whnf)
      | ((with_reducible refine SameW.mk rfl ?_); conv => whnf)
      | (refine LoadV.mem (i := 0) (by assumption) rfl rfl ?_; conv => whnf)
      | (refine LoadV.mem (i := 1) (by assumption) rfl rfl ?_; conv => whnf)
      | (refine LoadV.mem (i := 2) (by assumption) rfl rfl ?_; conv => whnf)
      | ((with_reducible refine Tst.beqT ?_))
      | ((with_reducible refine Tst.beqF ?_))
      | (refine Tst.yes rfl ?_; conv => whnf)
      | (refine Tst.no rfl ?_; conv => whnf)))
          refine ⟨?_, he⟩
          have : s.data.toList.any barB = true := by
            rw [← List.take_append_drop (p + 1) s.data.toList, List.any_append, hat]; rfl
          rw [refE, if_neg (by omega), if_neg hsc, if_pos this]; rfl
      · refine ⟨?_, he⟩
        rw [List.take_of_length_le (by simp; omega)] at ha
        rw [refE, if_neg (by omega), if_neg hsc, if_neg (by rw [ha]; simp)]; rfl

theorem refScheme_any (s : ByteArray) (hs : s.size ≤ 140737488355328) (w : World) :
    Gv Tryz.prog 79 [.string s] w fun v w' => v = .int .i64 (schemeN s.data.toList 0) ∧ w' = w := by
  refine gv (by kernel_rfl) Tryz.func79 rfl Tryz.ntmps79 rfl ?_; conv => whnf
  refine loopV (fun p : Nat => [(0, .string s), (3, .int .i64 p)]) (fun p w2 => p ≤ s.size ∧ w2 = w ∧ schemeN s.data.toList 0 = schemeN (s.data.toList.drop p) p) (fun p => s.size - p) 0 ⟨rfl, rfl, trivial⟩ ⟨by omega, rfl, rfl⟩ ?_
  rintro p w2 ρ' ⟨hp, rfl, ha⟩
  (conv => whnf)
  (repeat' (first
      | (refine Obl.mk ⟨by omega, by omega⟩ ?_; conv => whnf)
      | (refine Obl.mk ⟨by omega, by omega, ⟨by omega, by omega⟩⟩ ?_; conv => whnf)
      | ((with_reducible refine Tst.tt ?_); conv => whnf)
      | ((with_reducible refine Tst.ff ?_); conv => whnf)
      | ((with_reducible refine Tst.dec (fun _ => ?_) (fun _ => ?_)) <;> first | (exfalso; omega) | (conv => whnf))
      | ((with_reducible refine Tst.not ?_))
      | (refine Wit.conv ⟨by omega, by omega⟩ ?_; conv => whnf)
      | ((with_reducible refine IdxV.nat (by omega) ?_); conv => whnf)
      | ((with_reducible refine SameW.mk rfl ?_); conv => whnf)
      | (refine LoadV.mem (i := 0) (by assumption) rfl rfl ?_; conv => whnf)
      | (refine LoadV.mem (i := 1) (by assumption) rfl rfl ?_; conv => whnf)
      | (refine LoadV.mem (i := 2) (by assumption) rfl rfl ?_; conv => whnf)
      | ((with_reducible refine Tst.beqT ?_))
      | ((with_reducible refine Tst.beqF ?_))
      | (refine Tst.yes rfl ?_; conv => whnf)
      | (refine Tst.no rfl ?_; conv => whnf)))
  · exact ⟨by rw [ha, drop_get s p (by omega), schemeN_end _ _ _ (by omega)], rfl⟩
  · rw [drop_get s p (by omega)] at ha
    · refine CallV.of (refLetter_any (gb s p) _) ?_
      rintro v w3 ⟨rfl, rfl⟩
      (conv => whnf)
      cases hlb : letterB (gb s p)
      · have hl2 : ¬ (97 ≤ (gb s p).toNat ∧ (gb s p).toNat ≤ 122 ∨ 65 ≤ (gb s p).toNat ∧ (gb s p).toNat ≤ 90) := by simpa [letterB] using hlb
        (repeat' (first
      | (refine Obl.mk ⟨by omega, by omega⟩ ?_; conv => whnf)
      | (refine Obl.mk ⟨by omega, by omega, ⟨by omega, by omega⟩⟩ ?_; conv => whnf)
      | ((with_reducible refine Tst.tt ?_); conv => whnf)
      | ((with_reducible refine Tst.ff ?_); conv => whnf)
      | ((with_reducible refine Tst.dec (fun _ => ?_) (fun _ => ?_)) <;> first | (exfalso; omega) | (conv => whnf))
      | ((with_reducible refine Tst.not ?_))
      | (refine Wit.conv ⟨by omega, by omega⟩ ?_; conv => whnf)
      | ((with_reducible refine IdxV.nat (by omega) ?_); conv => whnf)
      | ((with_reducible refine SameW.mk rfl ?_); conv => whnf)
      | (refine LoadV.mem (i := 0) (by assumption) rfl rfl ?_; conv => whnf)
      | (refine LoadV.mem (i := 1) (by assumption) rfl rfl ?_; conv => whnf)
      | (refine LoadV.mem (i := 2) (by assumption) rfl rfl ?_; conv => whnf)
      | ((with_reducible refine Tst.beqT ?_))
      | ((with_reducible refine Tst.beqF ?_))
      | (refine Tst.yes rfl ?_; conv => whnf)
      | (refine Tst.no rfl ?_; conv => whnf)))
        · exact ⟨by rw [ha, schemeN_stop _ _ _ (by omega) (by omega)]; rfl, rfl⟩
        · refine CallV.of (refDigit_any (gb s p) _) ?_
          rintro v w3 ⟨rfl, rfl⟩
          (conv => whnf)
          (repeat' (first
      | (refine Obl.mk ⟨by omega, by omega⟩ ?_; conv => whnf)
      | (refine Obl.mk ⟨by omega, by omega, ⟨by omega, by omega⟩⟩ ?_; conv => whnf)
      | ((with_reducible refine Tst.tt ?_); conv => whnf)
      | ((with_reducible refine Tst.ff ?_); conv => whnf)
      | ((with_reducible refine Tst.dec (fun _ => ?_) (fun _ => ?_)) <;> first | (exfalso; omega) | (conv => whnf))
      | ((with_reducible refine Tst.not ?_))
      | (refine Wit.conv ⟨by omega, by omega⟩ ?_; conv => whnf)
      | ((with_reducible refine IdxV.nat (by omega) ?_); conv => whnf)
      | ((with_reducible refine SameW.mk rfl ?_); conv => whnf)
      | (refine LoadV.mem (i := 0) (by assumption) rfl rfl ?_; conv => whnf)
      | (refine LoadV.mem (i := 1) (by assumption) rfl rfl ?_; conv => whnf)
      | (refine LoadV.mem (i := 2) (by assumption) rfl rfl ?_; conv => whnf)
      | ((with_reducible refine Tst.beqT ?_))
      | ((with_reducible refine Tst.beqF ?_))
      | (refine Tst.yes rfl ?_; conv => whnf)
      | (refine Tst.no rfl ?_; conv => whnf)))
          all_goals first
            | exact ⟨by rw [ha, schemeN_stop _ _ _ (by omega) (by omega)]; rfl, rfl⟩
            | (refine ⟨p + 1, ⟨rfl, rfl, trivial⟩, ⟨by omega, rfl, ?_⟩, by omega⟩; rw [ha]; exact schemeN_go _ _ _ (by omega) (by omega))
      · have hl2 : (97 ≤ (gb s p).toNat ∧ (gb s p).toNat ≤ 122 ∨ 65 ≤ (gb s p).toNat ∧ (gb s p).toNat ≤ 90) := by simpa [letterB] using hlb
        (repeat' (first
      | (refine Obl.mk ⟨by omega, by omega⟩ ?_; conv => whnf)
      | (refine Obl.mk ⟨by omega, by omega, ⟨by omega, by omega⟩⟩ ?_; conv => whnf)
      | ((with_reducible refine Tst.tt ?_); conv => whnf)
      | ((with_reducible refine Tst.ff ?_); conv => whnf)
      | ((with_reducible refine Tst.dec (fun _ => ?_) (fun _ => ?_)) <;> first | (exfalso; omega) | (conv => whnf))
      | ((with_reducible refine Tst.not ?_))
      | (refine Wit.conv ⟨by omega, by omega⟩ ?_; conv => whnf)
      | ((with_reducible refine IdxV.nat (by omega) ?_); conv => whnf)
      | ((with_reducible refine SameW.mk rfl ?_); conv => whnf)
      | (refine LoadV.mem (i := 0) (by assumption) rfl rfl ?_; conv => whnf)
      | (refine LoadV.mem (i := 1) (by assumption) rfl rfl ?_; conv => whnf)
      | (refine LoadV.mem (i := 2) (by assumption) rfl rfl ?_; conv => whnf)
      | ((with_reducible refine Tst.beqT ?_))
      | ((with_reducible refine Tst.beqF ?_))
      | (refine Tst.yes rfl ?_; conv => whnf)
      | (refine Tst.no rfl ?_; conv => whnf)))
        all_goals (refine ⟨p + 1, ⟨rfl, rfl, trivial⟩, ⟨by omega, rfl, ?_⟩, by omega⟩; rw [ha]; exact schemeN_go _ _ _ (by omega) (by omega))
  · exact ⟨by rw [ha, List.drop_eq_nil_of_le (by simp; omega), schemeN]; rfl, rfl⟩

theorem refIriCheck_any (s : ByteArray) (hs : s.size ≤ 140737488355328) (w : World) :
    Gv Tryz.prog 34 [.string s] w fun v w' => v = .int .i64 (iriE s) ∧ Ext w w' := by
  refine gv (by kernel_rfl) Tryz.func34 rfl Tryz.ntmps34 rfl ?_; conv => whnf
  refine CallV.of (refReference_any s hs _) ?_
  rintro v w1 ⟨rfl, he⟩
  (conv => whnf)
  (repeat' (first
      | (refine Obl.mk ⟨by omega, by omega⟩ ?_; conv => whnf)
      | (refine Obl.mk ⟨by omega, by omega, ⟨by omega, by omega⟩⟩ ?_; conv => whnf)
      | ((with_reducible refine Tst.tt ?_); conv => whnf)
      | ((with_reducible refine Tst.ff ?_); conv => whnf)
      | ((with_reducible refine Tst.dec (fun _ => ?_) (fun _ => ?_)) <;> first | (exfalso; omega) | (conv => whnf))
      | ((with_reducible refine Tst.not ?_))
      | (refine Wit.conv ⟨by omega, by omega⟩ ?_; conv => whnf)
      | ((with_reducible refine IdxV.nat (by omega) ?_); conv => whnf)
      | ((with_reducible refine SameW.mk rfl ?_); conv => whnf)
      | (refine LoadV.mem (i := 0) (by assumption) rfl rfl ?_; conv => whnf)
      | (refine LoadV.mem (i := 1) (by assumption) rfl rfl ?_; conv => whnf)
      | (refine LoadV.mem (i := 2) (by assumption) rfl rfl ?_; conv => whnf)
      | ((with_reducible refine Tst.beqT ?_))
      | ((with_reducible refine Tst.beqF ?_))
      | (refine Tst.yes rfl ?_; conv => whnf)
      | (refine Tst.no rfl ?_; conv => whnf)))
  · refine CallV.of (refScheme_any s hs _) ?_
    rintro v w2 ⟨rfl, rfl⟩
    (conv => whnf)
    (repeat' (first
      | (refine Obl.mk ⟨by omega, by omega⟩ ?_; conv => whnf)
      | (refine Obl.mk ⟨by omega, by omega, ⟨by omega, by omega⟩⟩ ?_; conv => whnf)
      | ((with_reducible refine Tst.tt ?_); conv => whnf)
      | ((with_reducible refine Tst.ff ?_); conv => whnf)
      | ((with_reducible refine Tst.dec (fun _ => ?_) (fun _ => ?_)) <;> first | (exfalso; omega) | (conv => whnf))
      | ((with_reducible refine Tst.not ?_))
      | (refine Wit.conv ⟨by omega, by omega⟩ ?_; conv => whnf)
      | ((with_reducible refine IdxV.nat (by omega) ?_); conv => whnf)
      | ((with_reducible refine SameW.mk rfl ?_); conv => whnf)
      | (refine LoadV.mem (i := 0) (by assumption) rfl rfl ?_; conv => whnf)
      | (refine LoadV.mem (i := 1) (by assumption) rfl rfl ?_; conv => whnf)
      | (refine LoadV.mem (i := 2) (by assumption) rfl rfl ?_; conv => whnf)
      | ((with_reducible refine Tst.beqT ?_))
      | ((with_reducible refine Tst.beqF ?_))
      | (refine Tst.yes rfl ?_; conv => whnf)
      | (refine Tst.no rfl ?_; conv => whnf)))
    · exact ⟨by rw [iriE, if_neg (by omega), if_pos (by omega)]; rfl, he⟩
    · exact ⟨by rw [iriE, if_neg (by omega), if_neg (by omega), show refE s = 0 by omega], he⟩
  · exact ⟨by rw [iriE, if_pos (by omega)], he⟩
end Go.Proofs.YtajgbepghniciaaGreatDoor
namespace Go.Proofs.YtajgbepghniciaaGreatDoor
open Go.RowKit
namespace V
def resC (P : Program) (ρ : Nat → Value) (w : World) : List ResultVar → (List Value → Prop) → Prop
  | [], K => K []
  | .tmp t :: l, K => force (ρ t) fun v => resC P ρ w l fun vs => K (v :: vs)
  | .cell c ty :: l, K => loadV P ty (ρ c) w fun v => resC P ρ w l fun vs => K (v :: vs)
def one (vs : List Value) : Value :=
  match vs with
  | [v] => v
  | l => .tuple l.toArray
theorem loadVar_ok {P : Program} {w : World} {t : TypeId} {x : Value} {K : Value → Prop} (h : loadV P t x w K) : ∃ v, (do loadVar t (← asAddr x) : Sem Value).run P w = .ok v w ∧ K v := by
  unfold loadV at h
  split at h
  · rename_i d b off hu
    cases ha : aggD d <;> rw [ha] at h
    · obtain ⟨v, hv, hk⟩ := h
      rw [force_eq] at hk
      refine ⟨v, ?_, hk⟩
      simp [asAddr, loadVar, run_isAgg hu, ha, go_sem, hv]
    · cases hT : hasT P t <;> rw [hT] at h
      · exact h.elim
      · obtain ⟨cs, hl, hc, hk⟩ := h
        rw [forceL_eq] at hk
        refine ⟨_, ?_, hk⟩
        have := run_loadCells_list (P := P) w ⟨b, off, none⟩ cs (fun j v hv => by
          have hj : j < cs.length := by
            rcases Nat.lt_or_ge j cs.length with h | h
            · exact h
            · rw [List.getElem?_eq_none h] at hv; cases hv
          rw [add_plain, hc j (by omega)]; exact hv)
        simp [asAddr, loadVar, run_isAgg hu, ha, run_sizeOf hT, ← hl, this]
  · exact h.elim
theorem resC_ok {P : Program} {ρ : Nat → Value} {w : World} {tmps : Array Value} (hρ : ∀ t, tmps.getD t undef = ρ t) (l : List ResultVar) : ∀ K : List Value → Prop, resC P ρ w l K →
    ∃ vs, (l.mapM (resF tmps)).run P w = .ok vs w ∧ K vs := by
  induction l with
  | nil => intro K h; exact ⟨[], by simp, h⟩
  | cons x l ih =>
    intro K h
    cases x with
    | tmp t =>
      simp only [resC, force_eq] at h
      obtain ⟨vs, h1, h2⟩ := ih _ h
      exact ⟨ρ t :: vs, by rw [List.mapM_cons]; simp only [Sem.run_bind, resF, Sem.run_pure, Result.andThen_ok, hρ]; rw [h1]; rfl, h2⟩
    | cell c ty =>
      simp only [resC] at h
      obtain ⟨v, hv, hk⟩ := loadVar_ok h
      obtain ⟨vs, h1, h2⟩ := ih _ hk
      refine ⟨v :: vs, ?_, h2⟩
      have e : resF tmps (.cell c ty) = (do loadVar ty (← asAddr (ρ c))) := by rw [← hρ]; rfl
      rw [List.mapM_cons, Sem.run_bind, e, hv, Result.andThen_ok, Sem.run_bind, h1]; rfl
theorem res_any {P : Program} {n : Nat} {fn : Func} {ρ : Nat → Value} {w : World} {R : Value → World → Prop} (h : resC P ρ w fn.results.toList fun vs => R (one vs) w) :
    ∀ a, St n ρ a → ∃ v, (results fn a.tmps).run P w = .ok v w ∧ R v w := by
  intro a ha
  obtain ⟨vs, h1, h2⟩ := resC_ok ha.get fn.results.toList _ h
  refine ⟨one vs, ?_, h2⟩
  have e : results fn a.tmps = (do let vs ← fn.results.mapM (resF a.tmps); pure (if h : vs.size = 1 then vs[0] else .tuple vs)) := by
    unfold results; congr 1
  rw [e, Array.mapM_eq_mapM_toList]
  simp [h1]
  match vs with
  | [v] => rfl
  | [] => rfl
  | v :: u :: l => simp [one]
end V
end Go.Proofs.YtajgbepghniciaaGreatDoor
namespace Go.Proofs.YtajgbepghniciaaGreatDoor
open Go.RowKit V
set_option maxRecDepth 100000

namespace V
theorem BytesS.rw {w0 w : World} {A : Option Addr} {c n : Nat} {e : TypeId} {l : List UInt8} {L : List (Nat × Obj)} {K : Value → Prop} (h : Rw w0 w (.slice A n c) e 1 n (byteCells l) L) (hk : K (.string ⟨l.toArray⟩)) : BytesS w A n K := by
  have hn : l.length = n := by have := h.len; simpa [byteCells] using this
  refine ⟨l, hn, fun hne => ?_, hk⟩
  have : 0 < l.length := List.length_pos_iff.2 hne
  obtain ⟨g, e1, _, _, _, hc⟩ := h.cells (by omega)
  exact ⟨g, 0, e1, hc⟩
end V
end Go.Proofs.YtajgbepghniciaaGreatDoor
namespace Go.Proofs.YtajgbepghniciaaGreatDoor
open Go.RowKit V
set_option maxRecDepth 100000

namespace V
theorem Rw.short {w0 w : World} {A : Option Addr} {c n : Nat} {e : TypeId} {xs : List Value} {L : List (Nat × Obj)} (h : Rw w0 w (.slice A n c) e 1 n xs L) (m : Nat) (hm : m ≤ n) : Rw w0 w (.slice A m c) e 1 m (xs.take m) L := by
  have hlen : xs.length = n := by have := h.len; omega
  refine ⟨h.mem, ⟨by rw [List.length_take]; omega, ?_⟩, ?_⟩
  · rcases h.own.2 with ⟨e1, e2⟩ | ⟨g, cap, cur, e1, hg0, hg, hnc, hcm, hcs, htk⟩
    · cases e1
      exact .inl ⟨by rw [show m = 0 by omega], by omega⟩
    · cases e1
      refine .inr ⟨g, c, cur, rfl, hg0, hg, by omega, hcm, hcs, ?_⟩
      rw [← htk, List.take_take]; congr 1; omega
  · intro x hx
    have := h.apart x hx
    cases A <;> exact this
end V
end Go.Proofs.YtajgbepghniciaaGreatDoor
namespace Go.Proofs.YtajgbepghniciaaGreatDoor
open Go.RowKit
namespace V

/-- An entry: its slot, its value if settled, who uses it up, what holds. -/
structure EntO where
  d : Option Tmp
  v : Option Value
  u : Option Nat
  φ : Value → World → Prop
section
variable {P : Program} {n : Nat} {ops : List Oper} {w0 : World}
end
theorem ready_all {ops : Array Oper} {listed : Array Bool} {md : Region.Mode} (h : ∀ k, k < ops.size → listed.getD k true = true) : Region.ready md ops listed = [] := by
  rw [List.eq_nil_iff_forall_not_mem]
  intro j hj
  obtain ⟨h1, o, ho, _⟩ := mem_ready.1 hj
  rw [h j (Array.getElem?_eq_some_iff.1 ho).1] at h1
  cases h1
theorem ready_done {n : Nat} {ops : Array Oper} (hS : ShapeP n ops) {listed : Array Bool} (hsz : listed.size = ops.size) (hr : Region.ready .any ops listed = []) (k : Nat) (hk : k < ops.size) : listed.getD k false = true := by
  induction k using Nat.strongRecOn with
  | _ k ih =>
    cases hv : listed.getD k false with
    | true => rfl
    | false =>
      exfalso
      have hmem : k ∈ Region.ready .any ops listed := by
        refine mem_ready.2 ⟨?_, ops[k], Array.getElem?_eq_getElem hk, fun e he hb => ?_⟩
        · have : k < listed.size := by omega
          simp [this] at hv ⊢; exact hv
        · rw [bindB_eq] at hb
          have hp : e.on ∈ preds ops[k] := mem_predsL.2 ⟨e, by simpa using he, hb, rfl⟩
          have h1 := hS.lt k _ (Array.getElem?_eq_getElem hk) _ hp
          exact ih _ h1 (by omega)
      rw [hr] at hmem
      cases hmem
theorem getD_tf {listed : Array Bool} {i : Nat} (hi : i < listed.size) : listed.getD i true = listed.getD i false := by simp [hi]
/-- one operation more has come up, of entries that do not look at the world -/
theorem InvD.step {n : Nat} {ops : Array Oper} {E : List Ent} {w0 w w' : World} {ρ : Nat → Value} {listed : Array Bool} {vals ρa : Nat → Value} {a : Act} {i : Nat} {o : Oper} {e : Ent} {v : Value} (hS : ShapeP n ops) (hl : E.length = ops.size)
    (hd : ∀ (i : Nat) (o : Oper) (e : Ent), ops[i]? = some o → E[i]? = some e → EntOk e o) (hfree : ∀ (k : Nat) (e : Ent), E[k]? = some e → ∀ x w w', e.φ x w → e.φ x w')
    (I : InvD n E w0 ρ listed vals ρa a w) (hsz : listed.size = ops.size) (ho : ops[i]? = some o) (he : E[i]? = some e) (hun : listed.getD i false = false) (hx : Ext w0 w') (hφ : e.φ v w') :
    InvD n E w0 ρ (listed.setIfInBounds i true) (fun k => if k = i then v else vals k) (match o.dst with | some d => upd ρa d v | none => ρa) (a.put o.dst v) w' := by
  have hio : i < ops.size := (Array.getElem?_eq_some_iff.1 ho).1
  have hok := hd i o e ho he
  have hlt : ∀ (k : Nat) (e : Ent), E[k]? = some e → k < ops.size := fun k e hk => by
    rw [← hl]
    rcases Nat.lt_or_ge k E.length with h | h
    · exact h
    · rw [List.getElem?_eq_none h] at hk; cases hk
  have hgd : ∀ k, (listed.setIfInBounds i true).getD k false = true → k = i ∨ (k ≠ i ∧ listed.getD k false = true) := fun k hk => by
    by_cases hki : k = i
    · exact .inl hki
    · rw [getD_set_ne false (fun e => hki e.symm)] at hk
      exact .inr ⟨hki, hk⟩
  refine ⟨hx, ?_, ?_, ?_, ?_⟩
  · cases hdd : o.dst with
    | none => exact I.st
    | some d => exact I.st.put (hS.dn i o ho d hdd) v
  · intro k hk e' he'
    rcases hgd k hk with rfl | ⟨hki, hk⟩
    · rw [he] at he'
      cases he'
      simpa using hφ
    · simp only [if_neg hki]
      exact hfree k e' he' _ _ _ (I.φ k hk e' he')
  · intro k hk e' d he' hdd
    rcases hgd k hk with rfl | ⟨hki, hk⟩
    · rw [he] at he'
      cases he'
      rw [hok.d] at hdd
      simp [hdd, upd_same]
    · simp only [if_neg hki]
      have hk' := hlt k e' he'
      have hd2 := (hd k _ e' (Array.getElem?_eq_getElem hk') he').d
      cases ho2 : o.dst with
      | none => exact I.at_ k hk e' d he' hdd
      | some d2 =>
        have hne : d ≠ d2 := by
          rintro rfl
          exact hki (hS.uniq i o k _ d ho (Array.getElem?_eq_getElem hk') (hd2 ▸ hdd) ho2)
        simp only
        rw [upd_other _ _ _ _ hne]
        exact I.at_ k hk e' d he' hdd
  · intro t ht
    have h1 : ρa t = ρ t := I.miss t fun k hk e' he' => ht k (by
      by_cases hki : k = i
      · subst hki; rw [hun] at hk; cases hk
      · rw [getD_set_ne false (fun e => hki e.symm)]; exact hk) e' he'
    cases ho2 : o.dst with
    | none => exact h1
    | some d2 =>
      have hne : t ≠ d2 := by
        rintro rfl
        refine ht i ?_ e he (by rw [hok.d, ho2])
        have : i < listed.size := by omega
        simp [this]
      simp only
      rw [upd_other _ _ _ _ hne]
      exact h1

section
variable {P : Program} {n : Nat} {ops : Array Oper} {w0 : World} {F : List EntO} {ρ : Nat → Value}
end

end V
end Go.Proofs.YtajgbepghniciaaGreatDoor
namespace Go.Proofs.YtajgbepghniciaaGreatDoor
open Go.RowKit V
set_option maxRecDepth 100000

namespace V
/-- append to a row of one's own -/
theorem AppV.own {P : Program} {base e size : Nat} {w : World} {v : Value} {n : Nat} {xs : List Value} {t ty : TypeId} {i : TypeInfo} {z : Value} {A : Option Addr} {m c : Nat} {news : List Value} {K : Value → World → Prop} (ht : P.underlying t = some (.slice e)) (hi : P.info? e = some i) (hz : i.zero = some z)
    (hsize : i.size = size) (hzs : z.cells.size = size) (hsz : 0 < size) (h : w.ownsRow base e size v n xs) (hbw : base ≤ w.heap.size) (hl : news.length = m * size)
    (hA : news ≠ [] → ∃ b off, A = some ⟨b, off, none⟩ ∧ CellsAt w b off news) (h1 : ∀ u ∈ news, u.oneCell' = true) (hb : (n + m) * i.bytes ≤ 140737488355328) (h63 : n + m ≤ 140737488355328)
    (hk : ∀ v' w', w'.ownsRow base e size v' (n + m) (xs ++ news) → w.grownBy w' v.ownBlock → (v'.ownBlock = v.ownBlock ∨ v'.ownBlock = some w.heap.size) → K v' w') : AppV P #[t, t] ty v (.slice A m c) w K := by
  cases A with
  | none =>
    have hn : news = [] := by
      cases hnn : news with
      | nil => rfl
      | cons x r => obtain ⟨b, off, h0, _⟩ := hA (by rw [hnn]; simp); cases h0
    subst hn
    have hm : m = 0 := by
      rcases Nat.mul_eq_zero.1 (show m * size = 0 by simpa using hl.symm) with h | h
      · exact h
      · omega
    subst hm
    refine ⟨v, w, ?_, hk v w (by simpa using h) ⟨rfl, rfl, rfl, Nat.le_refl _, fun _ _ _ => rfl⟩ (.inl rfl)⟩
    rcases h.2 with ⟨e1, e2⟩ | ⟨g, cap, cur, e1, _, _, hnc, _⟩
    · subst e1; simp [Builtin.append_, run_underlying ht, sizeOf, typeInfo, hi, Builtin.lenOf, Builtin.firstCells]
    · subst e1; simp [Builtin.append_, run_underlying ht, sizeOf, typeInfo, hi, Builtin.lenOf, Builtin.firstCells, hnc, storeCells]
  | some a =>
    have hcells : ∀ j u, news[j]? = some u → w.cell? (a.add j) = some u := by
      intro j u hu
      obtain ⟨b, off, h0, h1⟩ := hA (by intro e; rw [e] at hu; simp at hu)
      cases h0
      rw [add_plain]; exact h1 j u hu
    obtain ⟨v', w', hrun, h2, h3, _, h5⟩ := run_append_own_at (P := P) w base t ty e i z size i.bytes ht hi hz hsize rfl hzs hsz v n xs h a m c news hl hcells h1 (by simp only [maxLen]; omega) hb hbw
    exact ⟨v', w', hrun, hk v' w' h2 h3 h5⟩
theorem Mem.add {w0 w : World} {L : List (Nat × Obj)} {g : Nat} {o : Obj} (h : Mem w0 w L) (hg : w.heap[g]? = some o) (h0 : w0.heap.size ≤ g) (hlt : ∀ x ∈ L, x.1 < g) : Mem w0 w ((g, o) :: L) := by
  refine ⟨h.ext, fun x hx => ?_, ?_⟩
  · rcases List.mem_cons.1 hx with rfl | hx
    · exact ⟨h0, hg⟩
    · exact h.own x hx
  · simp only [List.map_cons, List.nodup_cons]
    refine ⟨fun hm => ?_, h.nodup⟩
    obtain ⟨x, hx, e⟩ := List.mem_map.1 hm
    have := hlt x hx; omega
end V
end Go.Proofs.YtajgbepghniciaaGreatDoor
namespace Go.Proofs.YtajgbepghniciaaGreatDoor
open Go.RowKit V
set_option maxRecDepth 100000

def rdC (A : Option Addr) (n c : Nat) (t : List Value) : Obj := .cells (Value.slice A n c :: t).toArray 324 (0, 0)
def seeB (p : ByteArray → Bool) : List ByteArray → Bool
  | [] => false
  | x :: _ => p x
theorem sees_any (rb g : Nat) (cap : List Value) (p : ByteArray → Bool) (rest : List ByteArray) (A : Option Addr) (c : Nat) (t : List Value) (w : World) (hb : w.heap[rb]? = some (rdC A rest.length c t)) (hS : SlAt Go.Proofs.YtajgbepghniciaaGreatDoor.V.encS 1 w A rest)
    (hp : ∀ x xs w1, rest = x :: xs → Ext w w1 → Gv Tryz.prog g (.string x :: cap) w1 fun v w2 => v = .bool (p x) ∧ Ext w1 w2) :
    Gv Tryz.prog 211 [.pointer (some ⟨rb, 0, none⟩), .func (.func g) #[] cap.toArray] w fun v w' => v = .bool (seeB p rest) ∧ Ext w w' := by
  have h0 : ∀ w', Ext w w' → w'.cell? ⟨rb, 0, none⟩ = some (.slice A rest.length c) := fun w' he => he.cell (by rw [cell_heap hb]; rfl)
  refine gv (by kernel_rfl) Tryz.func211 rfl Tryz.ntmps211 rfl ?_; conv => whnf
  refine LoadV.of (h0 w (Ext.refl w)) ?_
  cases rest with
  | nil =>
    simp only [List.length_nil]
    (conv => whnf)
    (repeat' (first
      | (refine Obl.mk ⟨by omega, by omega⟩ ?_; conv => whnf)
      | (refine Obl.mk ⟨by omega, by omega, ⟨by omega, by omega⟩⟩ ?_; conv => whnf)
      | ((with_reducible refine Tst.tt ?_); conv => whnf)
      | ((with_reducible refine Tst.ff ?_); conv => whnf)
      | ((with_reducible refine Tst.dec (fun _ => ?_) (fun _ => ?_)) <;> first | (exfalso; omega) | (conv => whnf))
      | ((with_reducible refine Tst.not ?_))
      | (refine Wit.conv ⟨by omega, by omega⟩ ?_; conv => whnf)
      | ((with_reducible refine IdxV.nat (by omega) ?_); conv => whnf)
      | ((with_reducible refine SameW.mk rfl ?_); conv => whnf)
      | (refine LoadV.mem (i := 0) (by assumption) rfl rfl ?_; conv => whnf)
      | (refine LoadV.mem (i := 1) (by assumption) rfl rfl ?_; conv => whnf)
      | (refine LoadV.mem (i := 2) (by assumption) rfl rfl ?_; conv => whnf)
      | ((with_reducible refine Tst.beqT ?_))
      | ((with_reducible refine Tst.beqF ?_))
      | (refine Tst.yes rfl ?_; conv => whnf)
      | (refine Tst.no rfl ?_; conv => whnf)))
    exact ⟨rfl, Ext.refl w⟩
  | cons x xs =>
    simp only [List.length_cons] at h0 ⊢
    (conv => whnf)
    (repeat' (first
      | (refine Obl.mk ⟨by omega, by omega⟩ ?_; conv => whnf)
      | (refine Obl.mk ⟨by omega, by omega, ⟨by omega, by omega⟩⟩ ?_; conv => whnf)
      | ((with_reducible refine Tst.tt ?_); conv => whnf)
      | ((with_reducible refine Tst.ff ?_); conv => whnf)
      | ((with_reducible refine Tst.dec (fun _ => ?_) (fun _ => ?_)) <;> first | (exfalso; omega) | (conv => whnf))
      | ((with_reducible refine Tst.not ?_))
      | (refine Wit.conv ⟨by omega, by omega⟩ ?_; conv => whnf)
      | ((with_reducible refine IdxV.nat (by omega) ?_); conv => whnf)
      | ((with_reducible refine SameW.mk rfl ?_); conv => whnf)
      | (refine LoadV.mem (i := 0) (by assumption) rfl rfl ?_; conv => whnf)
      | (refine LoadV.mem (i := 1) (by assumption) rfl rfl ?_; conv => whnf)
      | (refine LoadV.mem (i := 2) (by assumption) rfl rfl ?_; conv => whnf)
      | ((with_reducible refine Tst.beqT ?_))
      | ((with_reducible refine Tst.beqF ?_))
      | (refine Tst.yes rfl ?_; conv => whnf)
      | (refine Tst.no rfl ?_; conv => whnf)))
    refine LoadV.of (h0 w (Ext.refl w)) ?_
    (conv => whnf)
    (repeat' (first
      | (refine Obl.mk ⟨by omega, by omega⟩ ?_; conv => whnf)
      | (refine Obl.mk ⟨by omega, by omega, ⟨by omega, by omega⟩⟩ ?_; conv => whnf)
      | ((with_reducible refine Tst.tt ?_); conv => whnf)
      | ((with_reducible refine Tst.ff ?_); conv => whnf)
      | ((with_reducible refine Tst.dec (fun _ => ?_) (fun _ => ?_)) <;> first | (exfalso; omega) | (conv => whnf))
      | ((with_reducible refine Tst.not ?_))
      | (refine Wit.conv ⟨by omega, by omega⟩ ?_; conv => whnf)
      | ((with_reducible refine IdxV.nat (by omega) ?_); conv => whnf)
      | ((with_reducible refine SameW.mk rfl ?_); conv => whnf)
      | (refine LoadV.mem (i := 0) (by assumption) rfl rfl ?_; conv => whnf)
      | (refine LoadV.mem (i := 1) (by assumption) rfl rfl ?_; conv => whnf)
      | (refine LoadV.mem (i := 2) (by assumption) rfl rfl ?_; conv => whnf)
      | ((with_reducible refine Tst.beqT ?_))
      | ((with_reducible refine Tst.beqF ?_))
      | (refine Tst.yes rfl ?_; conv => whnf)
      | (refine Tst.no rfl ?_; conv => whnf)))
    refine ElemV.sl hS rfl 0 rfl (by simp) ?_
    intro b off hc
    (conv => whnf)
    (repeat' (first
      | (refine Obl.mk ⟨by omega, by omega⟩ ?_; conv => whnf)
      | (refine Obl.mk ⟨by omega, by omega, ⟨by omega, by omega⟩⟩ ?_; conv => whnf)
      | ((with_reducible refine Tst.tt ?_); conv => whnf)
      | ((with_reducible refine Tst.ff ?_); conv => whnf)
      | ((with_reducible refine Tst.dec (fun _ => ?_) (fun _ => ?_)) <;> first | (exfalso; omega) | (conv => whnf))
      | ((with_reducible refine Tst.not ?_))
      | (refine Wit.conv ⟨by omega, by omega⟩ ?_; conv => whnf)
      | ((with_reducible refine IdxV.nat (by omega) ?_); conv => whnf)
      | ((with_reducible refine SameW.mk rfl ?_); conv => whnf)
      | (refine LoadV.mem (i := 0) (by assumption) rfl rfl ?_; conv => whnf)
      | (refine LoadV.mem (i := 1) (by assumption) rfl rfl ?_; conv => whnf)
      | (refine LoadV.mem (i := 2) (by assumption) rfl rfl ?_; conv => whnf)
      | ((with_reducible refine Tst.beqT ?_))
      | ((with_reducible refine Tst.beqF ?_))
      | (refine Tst.yes rfl ?_; conv => whnf)
      | (refine Tst.no rfl ?_; conv => whnf)))
    refine LoadV.cell0 hc ?_
    (conv => whnf)
    (repeat' (first
      | (refine Obl.mk ⟨by omega, by omega⟩ ?_; conv => whnf)
      | (refine Obl.mk ⟨by omega, by omega, ⟨by omega, by omega⟩⟩ ?_; conv => whnf)
      | ((with_reducible refine Tst.tt ?_); conv => whnf)
      | ((with_reducible refine Tst.ff ?_); conv => whnf)
      | ((with_reducible refine Tst.dec (fun _ => ?_) (fun _ => ?_)) <;> first | (exfalso; omega) | (conv => whnf))
      | ((with_reducible refine Tst.not ?_))
      | (refine Wit.conv ⟨by omega, by omega⟩ ?_; conv => whnf)
      | ((with_reducible refine IdxV.nat (by omega) ?_); conv => whnf)
      | ((with_reducible refine SameW.mk rfl ?_); conv => whnf)
      | (refine LoadV.mem (i := 0) (by assumption) rfl rfl ?_; conv => whnf)
      | (refine LoadV.mem (i := 1) (by assumption) rfl rfl ?_; conv => whnf)
      | (refine LoadV.mem (i := 2) (by assumption) rfl rfl ?_; conv => whnf)
      | ((with_reducible refine Tst.beqT ?_))
      | ((with_reducible refine Tst.beqF ?_))
      | (refine Tst.yes rfl ?_; conv => whnf)
      | (refine Tst.no rfl ?_; conv => whnf)))
    have hp' := hp x xs w rfl (Ext.refl w)
    cases cap with
    | nil =>
      (conv => whnf)
      refine CallV.of (hp') ?_
      rintro v w2 ⟨rfl, he⟩
      (conv => whnf)
      (repeat' (first
      | (refine Obl.mk ⟨by omega, by omega⟩ ?_; conv => whnf)
      | (refine Obl.mk ⟨by omega, by omega, ⟨by omega, by omega⟩⟩ ?_; conv => whnf)
      | ((with_reducible refine Tst.tt ?_); conv => whnf)
      | ((with_reducible refine Tst.ff ?_); conv => whnf)
      | ((with_reducible refine Tst.dec (fun _ => ?_) (fun _ => ?_)) <;> first | (exfalso; omega) | (conv => whnf))
      | ((with_reducible refine Tst.not ?_))
      | (refine Wit.conv ⟨by omega, by omega⟩ ?_; conv => whnf)
      | ((with_reducible refine IdxV.nat (by omega) ?_); conv => whnf)
      | ((with_reducible refine SameW.mk rfl ?_); conv => whnf)
      | (refine LoadV.mem (i := 0) (by assumption) rfl rfl ?_; conv => whnf)
      | (refine LoadV.mem (i := 1) (by assumption) rfl rfl ?_; conv => whnf)
      | (refine LoadV.mem (i := 2) (by assumption) rfl rfl ?_; conv => whnf)
      | ((with_reducible refine Tst.beqT ?_))
      | ((with_reducible refine Tst.beqF ?_))
      | (refine Tst.yes rfl ?_; conv => whnf)
      | (refine Tst.no rfl ?_; conv => whnf)))
      exact ⟨rfl, he⟩
    | cons y ys =>
      (conv => whnf)
      refine CallV.of (hp') ?_
      rintro v w2 ⟨rfl, he⟩
      (conv => whnf)
      (repeat' (first
      | (refine Obl.mk ⟨by omega, by omega⟩ ?_; conv => whnf)
      | (refine Obl.mk ⟨by omega, by omega, ⟨by omega, by omega⟩⟩ ?_; conv => whnf)
      | ((with_reducible refine Tst.tt ?_); conv => whnf)
      | ((with_reducible refine Tst.ff ?_); conv => whnf)
      | ((with_reducible refine Tst.dec (fun _ => ?_) (fun _ => ?_)) <;> first | (exfalso; omega) | (conv => whnf))
      | ((with_reducible refine Tst.not ?_))
      | (refine Wit.conv ⟨by omega, by omega⟩ ?_; conv => whnf)
      | ((with_reducible refine IdxV.nat (by omega) ?_); conv => whnf)
      | ((with_reducible refine SameW.mk rfl ?_); conv => whnf)
      | (refine LoadV.mem (i := 0) (by assumption) rfl rfl ?_; conv => whnf)
      | (refine LoadV.mem (i := 1) (by assumption) rfl rfl ?_; conv => whnf)
      | (refine LoadV.mem (i := 2) (by assumption) rfl rfl ?_; conv => whnf)
      | ((with_reducible refine Tst.beqT ?_))
      | ((with_reducible refine Tst.beqF ?_))
      | (refine Tst.yes rfl ?_; conv => whnf)
      | (refine Tst.no rfl ?_; conv => whnf)))
      exact ⟨rfl, he⟩

/-- a slice's rest behind its first element -/
theorem V.SliceV.tail {w : World} {A : Option Addr} {x : ByteArray} {xs : List ByteArray} {n c : Nat} {k : IntKind} {K : Value → Prop} (hS : SlAt Go.Proofs.YtajgbepghniciaaGreatDoor.V.encS 1 w A (x :: xs)) (hn : n = xs.length + 1) (hc : n ≤ c)
    (hk : ∀ A' c', SlAt Go.Proofs.YtajgbepghniciaaGreatDoor.V.encS 1 w A' xs → xs.length ≤ c' → K (.slice A' xs.length c')) : SliceV 1 A n c (some (.int k 1)) none none K := by
  subst hn
  refine ⟨1, xs.length + 1, c, rfl, rfl, rfl, by omega, by omega, by omega, fun h => by simp at h, fun A' hA' => ?_⟩
  obtain ⟨b, off, rfl, h2⟩ := hS.at_ (by simp)
  have hk := hk A' (c - 1) ⟨fun hne => ?_⟩ (by omega)
  · simpa using hk
  · have hpos : 0 < xs.length := List.length_pos_iff.2 hne
    rw [if_neg (by omega)] at hA'
    refine ⟨b, off + 1, ?_, fun j y hy => ?_⟩
    · rw [hA']
      show some ((⟨b, off, none⟩ : Addr).add (1 * 1)) = _
      rw [add_plain]
    · have := h2 (j + 1) y (by simpa using hy)
      rw [show off + 1 + j * 1 = off + (j + 1) * 1 by omega]
      exact this
theorem next2_any (rb i : Nat) (x : ByteArray) (xs : List ByteArray) (A : Option Addr) (c : Nat) (t : List Value) (w0 w : World) (L : List (Nat × Obj)) (hm : Mem w0 w L) (hi : L[i]? = some (rb, rdC A (xs.length + 1) c t)) (hS : SlAt Go.Proofs.YtajgbepghniciaaGreatDoor.V.encS 1 w0 A (x :: xs)) (hc : xs.length + 1 ≤ c) :
    Gv Tryz.prog 215 [.pointer (some ⟨rb, 0, none⟩)] w fun v w' => v = .string x ∧ ∃ A' c', SlAt Go.Proofs.YtajgbepghniciaaGreatDoor.V.encS 1 w0 A' xs ∧ xs.length ≤ c' ∧ Mem w0 w' (L.set i (rb, rdC A' xs.length c' t)) := by
  have hb := hm.get (List.mem_of_getElem? hi)
  refine gv (by kernel_rfl) Tryz.func215 rfl Tryz.ntmps215 rfl ?_; conv => whnf
  refine LoadV.of (v := .slice A (xs.length + 1) c) (by rw [rdC] at hb; rw [cell_heap hb]; rfl) ?_
  (conv => whnf)
  refine ElemV.sl (hS.ext hm.ext) rfl 0 rfl (by simp) ?_
  intro b off hcl
  (conv => whnf)
  refine LoadV.cell0 hcl ?_
  (conv => whnf)
  refine LoadV.of (v := .slice A (xs.length + 1) c) (by rw [rdC] at hb; rw [cell_heap hb]; rfl) ?_
  (conv => whnf)
  refine V.SliceV.tail hS rfl hc ?_
  intro A' c' hS' hc'
  (conv => whnf)
  refine StoreV.mem hm hi (show 0 < t.length + 1 by omega) rfl ?_
  intro w2 hm2
  (conv => whnf)
  exact ⟨rfl, A', c', hS', hc', hm2⟩
end Go.Proofs.YtajgbepghniciaaGreatDoor
namespace Go.Proofs.YtajgbepghniciaaGreatDoor
open Go.RowKit V
set_option maxRecDepth 100000

theorem tail1_any (x : ByteArray) (lb least : Nat) (hs : x.size ≤ 140737488355328) (w : World) (hl : w.cell? ⟨lb, 0, none⟩ = some (.int .i64 least)) :
    Gv Tryz.prog 265 [.string x, .pointer (some ⟨lb, 0, none⟩)] w fun v w' => v = .bool (madeB x least 8 false) ∧ Ext w w' := by
  have h1 := made_any x least 8 false hs w
  refine gv (by kernel_rfl) Tryz.func265 rfl Tryz.ntmps265 rfl ?_; conv => whnf
  refine LoadV.of hl ?_
  (conv => whnf)
  refine CallV.of (h1) ?_
  rintro v w' ⟨rfl, he⟩
  (conv => whnf)
  exact ⟨rfl, he⟩
theorem set_get {α : Type} {L : List α} {i : Nat} {a : α} (h : L[i]? = some a) : L.set i a = L := by
  apply List.ext_getElem?
  intro j
  rw [List.getElem?_set]
  split
  · rename_i e; subst e
    split
    · exact h.symm
    · rename_i hl; rw [List.getElem?_eq_none (by omega)] at h; cases h
  · rfl
theorem seq_empty (s : ByteArray) : seq s ⟨#[]⟩ = decide (s.size = 0) := by
  rw [Bool.eq_iff_iff, seq_iff, decide_eq_true_iff]
  constructor
  · rintro rfl; rfl
  · intro h
    obtain ⟨a⟩ := s
    have : a = #[] := Array.eq_empty_of_size_eq_zero h
    rw [this]
/-- what a tail leaves behind -/
structure TailP (q : ByteArray → Bool) (rest pre rest' : List ByteArray) (s : ByteArray) : Prop where
  eq : rest = pre ++ rest'
  all : pre.all q = true
  size : s.size ≤ 9 * pre.length
  none : s.size = 0 ↔ pre = []
theorem TailP.step {q : ByteArray → Bool} {rest pre xs : List ByteArray} {x s s' : ByteArray} (h : TailP q rest pre (x :: xs) s) (hq : q x = true) (hs : s'.size = s.size + 1 + x.size) (hx : x.size ≤ 8) : TailP q rest (pre ++ [x]) xs s' := by
  obtain ⟨h1, h2, h3, h4⟩ := h
  refine ⟨by rw [h1]; simp, by simp [h2, hq], by simp; omega, ?_⟩
  constructor
  · intro h; omega
  · intro h; simp at h
theorem tail_any (rb i least : Nat) (rest : List ByteArray) (A : Option Addr) (c : Nat) (t : List Value) (w0 w : World) (L : List (Nat × Obj)) (hm : Mem w0 w L) (hi : L[i]? = some (rb, rdC A rest.length c t)) (hS : SlAt Go.Proofs.YtajgbepghniciaaGreatDoor.V.encS 1 w0 A rest) (hc : rest.length ≤ c)
    (hx : ∀ x ∈ rest, x.size ≤ 1000000) (hn : rest.length ≤ 1000000) :
    Gv Tryz.prog 216 [.pointer (some ⟨rb, 0, none⟩), .int .i64 least] w fun v w' => ∃ pre rest' s, TailP (fun x => madeB x least 8 false) rest pre rest' s ∧ seeB (fun x => madeB x least 8 false) rest' = false ∧
      v = .tuple #[.string s, .bool (decide (pre ≠ []))] ∧ ∃ A' c', SlAt Go.Proofs.YtajgbepghniciaaGreatDoor.V.encS 1 w0 A' rest' ∧ rest'.length ≤ c' ∧ Mem w0 w' (L.set i (rb, rdC A' rest'.length c' t)) := by
  refine gv (by kernel_rfl) Tryz.func216 rfl Tryz.ntmps216 rfl ?_; conv => whnf
  refine NewV.mem hm ?_
  intro lb w1 hm1
  (conv => whnf)
  refine loopV (fun x : List ByteArray × Option Addr × Nat × ByteArray => [(0, .pointer (some ⟨rb, 0, none⟩)), (3, .pointer (some ⟨lb, 0, none⟩)), (6, .string x.2.2.2)])
    (fun x w2 => ∃ pre, TailP (fun x => madeB x least 8 false) rest pre x.1 x.2.2.2 ∧ SlAt Go.Proofs.YtajgbepghniciaaGreatDoor.V.encS 1 w0 x.2.1 x.1 ∧ x.1.length ≤ x.2.2.1 ∧ Mem w0 w2 ((lb, .cells #[.int .i64 least] 3 (0, 0)) :: L.set i (rb, rdC x.2.1 x.1.length x.2.2.1 t)))
    (fun x => x.1.length) (rest, A, c, ⟨#[]⟩) ⟨rfl, rfl, rfl, trivial⟩ ⟨[], ⟨rfl, rfl, by simp; rfl, by simp; rfl⟩, hS, hc, by simp only; rw [set_get hi]; exact hm1⟩ ?_
  rintro ⟨xs, B, d, s⟩ w2 ρ' ⟨pre, hP, hS2, hd, hm2⟩
  simp only at hP hS2 hd hm2
  dsimp only
  (conv => whnf)
  have hil : i < L.length := (List.getElem?_eq_some_iff.1 hi).1
  have hlb := hm2.get (List.mem_cons_self ..)
  have hsz : ∀ x ∈ xs, x.size ≤ 1000000 := fun x hxx => hx x (by rw [hP.eq]; exact List.mem_append_right _ hxx)
  have hpl : pre.length ≤ 1000000 := by have := congrArg List.length hP.eq; simp at this; omega
  have hps := hP.size
  refine CallV.of (sees_any rb 265 [.pointer (some ⟨lb, 0, none⟩)] (fun x => madeB x least 8 false) xs B d t w2 (hm2.get (List.mem_of_getElem? (i := i + 1) (by simp [hil]))) (hS2.ext hm2.ext) (fun x ys w3 e he => tail1_any x lb least (by have := hsz x (by rw [e]; exact List.mem_cons_self ..); omega) w3 (he.cell (by rw [cell_heap hlb]; rfl)))) ?_
  rintro v w3 ⟨rfl, he⟩
  have hm3 := hm2.call he
  cases hq : seeB (fun x => madeB x least 8 false) xs
  · (conv => whnf)
    (repeat' (first
      | (refine Obl.mk ⟨by omega, by omega⟩ ?_; conv => whnf)
      | (refine Obl.mk ⟨by omega, by omega, ⟨by omega, by omega⟩⟩ ?_; conv => whnf)
      | ((with_reducible refine Tst.tt ?_); conv => whnf)
      | ((with_reducible refine Tst.ff ?_); conv => whnf)
      | ((with_reducible refine Tst.dec (fun _ => ?_) (fun _ => ?_)) <;> first | (exfalso; omega) | (conv => whnf))
      | ((with_reducible refine Tst.not ?_))
      | (refine Wit.conv ⟨by omega, by omega⟩ ?_; conv => whnf)
      | ((with_reducible refine IdxV.nat (by omega) ?_); conv => whnf)
      | ((with_reducible refine SameW.mk rfl ?_); conv => whnf)
      | (refine LoadV.mem (i := 0) (by assumption) rfl rfl ?_; conv => whnf)
      | (refine LoadV.mem (i := 1) (by assumption) rfl rfl ?_; conv => whnf)
      | (refine LoadV.mem (i := 2) (by assumption) rfl rfl ?_; conv => whnf)
      | ((with_reducible refine Tst.beqT ?_))
      | ((with_reducible refine Tst.beqF ?_))
      | (refine Tst.yes rfl ?_; conv => whnf)
      | (refine Tst.no rfl ?_; conv => whnf)))
    refine ⟨pre, xs, s, hP, hq, ?_, B, d, hS2, hd, hm3.sub (List.sublist_cons_self ..)⟩
    have e : seq s ⟨#[]⟩ = decide (pre = []) := by
      rw [seq_empty, Bool.eq_iff_iff, decide_eq_true_iff, decide_eq_true_iff]; exact hP.none
    rw [e]
    congr 3
    by_cases h : pre = [] <;> simp [h]
  · obtain ⟨x, ys, rfl⟩ : ∃ x ys, xs = x :: ys := by
      cases xs with
      | nil => cases hq
      | cons x ys => exact ⟨x, ys, rfl⟩
    have hq : madeB x least 8 false = true := hq
    have hx8 : x.size ≤ 8 := by simp [madeB] at hq; omega
    simp only [List.length_cons] at hd hm3 ⊢
    (conv => whnf)
    (repeat' (first
      | (refine Obl.mk ⟨by omega, by omega⟩ ?_; conv => whnf)
      | (refine Obl.mk ⟨by omega, by omega, ⟨by omega, by omega⟩⟩ ?_; conv => whnf)
      | ((with_reducible refine Tst.tt ?_); conv => whnf)
      | ((with_reducible refine Tst.ff ?_); conv => whnf)
      | ((with_reducible refine Tst.dec (fun _ => ?_) (fun _ => ?_)) <;> first | (exfalso; omega) | (conv => whnf))
      | ((with_reducible refine Tst.not ?_))
      | (refine Wit.conv ⟨by omega, by omega⟩ ?_; conv => whnf)
      | ((with_reducible refine IdxV.nat (by omega) ?_); conv => whnf)
      | ((with_reducible refine SameW.mk rfl ?_); conv => whnf)
      | (refine LoadV.mem (i := 0) (by assumption) rfl rfl ?_; conv => whnf)
      | (refine LoadV.mem (i := 1) (by assumption) rfl rfl ?_; conv => whnf)
      | (refine LoadV.mem (i := 2) (by assumption) rfl rfl ?_; conv => whnf)
      | ((with_reducible refine Tst.beqT ?_))
      | ((with_reducible refine Tst.beqF ?_))
      | (refine Tst.yes rfl ?_; conv => whnf)
      | (refine Tst.no rfl ?_; conv => whnf)))
    refine CallV.of (next2_any rb (i + 1) x ys B d t w0 w3 _ hm3 (by simp [hil]) hS2 hd) ?_
    rintro v w4 ⟨rfl, A', c', hS4, hc4, hm4⟩
    have hm4' : Mem w0 w4 ((lb, .cells #[.int .i64 least] 3 (0, 0)) :: L.set i (rb, rdC A' ys.length c' t)) := by
      rw [List.set_cons_succ, List.set_set] at hm4; exact hm4
    (conv => whnf)
    refine ⟨by show 1 + x.size ≤ _; omega, ?_⟩
    (conv => whnf)
    refine ⟨by show s.size + (_ : ByteArray).size ≤ _; rw [bsz]; show s.size + (1 + x.size) ≤ _; omega, ?_⟩
    (conv => whnf)
    exact ⟨(ys, A', c', s ++ ((⟨#[45]⟩ : ByteArray) ++ x)), ⟨rfl, rfl, rfl, trivial⟩, ⟨pre ++ [x], hP.step hq (by rw [bsz, bsz]; show s.size + (1 + x.size) = _; omega) hx8, hS4, hc4, hm4'⟩, by simp⟩
end Go.Proofs.YtajgbepghniciaaGreatDoor
namespace Go.Proofs.YtajgbepghniciaaGreatDoor
open Go.RowKit
namespace V
def setS (S : Nat → Bool) (k : Nat) : Nat → Bool := fun j => bif Nat.beq j k then true else S j
structure StepI (A : Value → Prop) (K : Value → Prop) : Prop where
  h : ∃ v, A v ∧ K v
theorem StepI.of {A K : Value → Prop} (v : Value) (h : A v) (hk : K v) : StepI A K := ⟨v, h, hk⟩
def regI (P : Program) (ops : List Oper) (I : (Nat → Bool) → World → Prop) (Q : (Nat → Value) → World → Prop) : List Oper → Nat → (Nat → Value) → Prop
  | [], _, ρ => ∀ w, I (fun _ => true) w → Q ρ w
  | o :: l, k, ρ => StepI (fun v => ∀ S w, S k = false → (∀ j ∈ preds o, S j = true) → I S w → guardO P ops o ρ w fun v' w' => v' = v ∧ I (setS S k) w')
      (fun v => regI P ops I Q l (k + 1) (updO ρ o.dst (some v)))
section
variable {P : Program} {n : Nat}
def SpecI (P : Program) (ops : List Oper) (I : (Nat → Bool) → World → Prop) (F : List Ent) (ρ0 : Nat → Value) (i : Nat) (o : Oper) (e : Ent) : Prop :=
  ∃ v, e = ⟨o.dst, some v, fun x _ => x = v⟩ ∧ ∀ S w, S i = false → (∀ j ∈ preds o, S j = true) → I S w → guardO P ops o (sfr (F.take i) ρ0) w fun v' w' => v' = v ∧ I (setS S i) w'
theorem regI_all {ops : List Oper} {I : (Nat → Bool) → World → Prop} {Q : (Nat → Value) → World → Prop} (l : List Oper) : ∀ (F : List Ent) (ρ0 : Nat → Value), regI P ops I Q l F.length (sfr F ρ0) →
    ∃ E : List Ent, E.length = l.length ∧ (∀ i o e, l[i]? = some o → E[i]? = some e → SpecI P ops I (F ++ E) ρ0 (F.length + i) o e) ∧ ∀ w, I (fun _ => true) w → Q (sfr (F ++ E) ρ0) w := by
  induction l with
  | nil => intro F ρ0 h; exact ⟨[], rfl, fun i o e hi => by simp at hi, by rw [List.append_nil]; exact h⟩
  | cons o l ih =>
    intro F ρ0 h
    obtain ⟨v, hA, hK⟩ := h.h
    have e1 : updO (sfr F ρ0) o.dst (some v) = sfr (F ++ [(⟨o.dst, some v, fun x _ => x = v⟩ : Ent)]) ρ0 := by rw [sfr_append]; rfl
    have e2 : F.length + 1 = (F ++ [(⟨o.dst, some v, fun x _ => x = v⟩ : Ent)]).length := by simp
    rw [e1, e2] at hK
    obtain ⟨E, h1, h2, h3⟩ := ih _ ρ0 hK
    refine ⟨⟨o.dst, some v, fun x _ => x = v⟩ :: E, by simp [h1], fun i o' e hi he => ?_, by simpa using h3⟩
    cases i with
    | zero =>
      simp at hi he
      subst hi he
      exact ⟨v, rfl, by simpa using hA⟩
    | succ i =>
      simp at hi he
      have := h2 i o' e hi he
      simpa [Nat.add_assoc, Nat.add_comm 1 i] using this
variable {ops : Array Oper} {w0 : World} {E : List Ent} {ρ : Nat → Value}
theorem wpAny_inv {I : (Nat → Bool) → World → Prop} {Q : (Nat → Value) → World → Prop} {Q' : Exit → Act → World → Prop} (hQ : ∀ ρ a w, St n ρ a → Q ρ w → Q' .normal a w) (hS : ShapeP n ops) (hl : E.length = ops.size)
    (hE : ∀ (i : Nat) (o : Oper) (e : Ent), ops[i]? = some o → E[i]? = some e → SpecI P ops.toList I E ρ i o e) (hF : ∀ w, I (fun _ => true) w → Q (sfr E ρ) w) :
    ∀ (fuel : Nat) (listed : Array Bool) (vals ρa : Nat → Value) (a : Act) (w : World), listed.size = ops.size → listed.toList.count false ≤ fuel → InvD n E w0 ρ listed vals ρa a w0 → I (fun j => listed.getD j true) w → wpAny P .any ops Q' fuel listed a w := by
  have hd : ∀ (i : Nat) (o : Oper) (e : Ent), ops[i]? = some o → E[i]? = some e → EntOk e o := fun i o e h1 h2 => by
    obtain ⟨v, rfl, _⟩ := hE i o e h1 h2
    exact ⟨rfl, fun _ _ _ h _ => h, fun c hc x w hx => by cases hc; exact hx⟩
  have hlt : ∀ (k : Nat) (e : Ent), E[k]? = some e → k < ops.size := fun k e hk => by
    rw [← hl]; exact (List.getElem?_eq_some_iff.1 hk).1
  have hfree : ∀ (k : Nat) (e : Ent), E[k]? = some e → ∀ x w w', e.φ x w → e.φ x w' := fun k e he x w w' h => by
    have hk := hlt k e he
    obtain ⟨v, rfl, _⟩ := hE k _ e (Array.getElem?_eq_getElem hk) he
    exact h
  have hsome : ∀ (k : Nat) (e : Ent), E[k]? = some e → e.v ≠ none := fun k e he => by
    have hk := hlt k e he
    obtain ⟨v, rfl, _⟩ := hE k _ e (Array.getElem?_eq_getElem hk) he
    simp
  have final : ∀ (listed : Array Bool) (vals ρa : Nat → Value) (a : Act) (w : World), (∀ k, k < ops.size → listed.getD k false = true) → listed.size = ops.size → InvD n E w0 ρ listed vals ρa a w0 → I (fun j => listed.getD j true) w → Q' .normal a w := fun listed vals ρa a w hall hsz D hI => by
    have hT : (fun j => listed.getD j true) = fun _ => true := by
      funext j
      rcases Nat.lt_or_ge j listed.size with hj | hj
      · rw [getD_tf hj]; exact hall j (by omega)
      · simp [Array.getElem?_eq_none hj]
    rw [hT] at hI
    have he : sfr E ρ = ρa := by
      funext t
      have := frame_at hd hl hS D E.length [] t (fun k e hk hdt hki => ⟨hall k (hlt k e hk), fun hv => absurd hv (hsome k e hk)⟩) (fun k e hk _ _ => by rw [hl]; exact hlt k e hk)
      rwa [List.take_length] at this
    exact hQ _ _ _ D.st (he ▸ hF w hI)
  intro fuel
  induction fuel with
  | zero =>
    intro listed vals ρa a w hsz hc D hI
    have hall : ∀ k, k < ops.size → listed.getD k false = true := fun k hk => by
      have h1 := List.count_eq_zero.1 (show listed.toList.count false = 0 by omega)
      have hk' : k < listed.size := by omega
      cases hv : listed[k] with
      | true => simp [hk', hv]
      | false => exact absurd (by rw [← hv]; exact Array.mem_toList_iff.2 (Array.getElem_mem hk')) h1
    exact ⟨ready_all fun k hk => by rw [getD_tf (by omega)]; exact hall k hk, final listed vals ρa a w hall hsz D hI⟩
  | succ fuel ih =>
    intro listed vals ρa a w hsz hc D hI
    refine ⟨fun hr => final listed vals ρa a w (fun k hk => ready_done hS hsz hr k hk) hsz D hI, fun i hi => ?_⟩
    obtain ⟨hun, o, ho, hall⟩ := mem_ready.1 hi
    have hio : i < ops.size := (Array.getElem?_eq_some_iff.1 ho).1
    have hnl : listed.getD i false = false := by rw [← getD_tf (by omega)]; exact hun
    have hpl : ∀ k ∈ preds o, listed.getD k false = true := fun k hk => by
      obtain ⟨e, he, hb, hon⟩ := mem_predsL.1 hk
      rw [← hon]
      exact hall e (by simpa using he) (by rw [bindB_eq]; exact hb)
    have hiE : E[i]? = some E[i] := List.getElem?_eq_getElem (by omega)
    obtain ⟨v, he, hspec⟩ := hE i o E[i] ho hiE
    have hlp : ∀ k ∈ preds o, listed.getD k true = true := fun k hk => by
      have := hpl k hk
      rcases Nat.lt_or_ge k listed.size with hj | hj
      · rw [getD_tf hj]; exact this
      · simp [Array.getElem?_eq_none hj]
    have h := hspec (fun j => listed.getD j true) w hun hlp hI
    have hag : ∀ t ∈ o.looksAt ops, sfr (E.take i) ρ t = ρa t := fun t ht => by
      have hp : ∀ (k : Nat) (e : Ent), E[k]? = some e → e.d = some t → k ∈ preds o := fun k e hk hdt => by
        have hk' := hlt k e hk
        exact hS.look i o k ops[k] t ho (Array.getElem?_eq_getElem hk') ((hd k _ e (Array.getElem?_eq_getElem hk') hk).d ▸ hdt) ht
      exact frame_at hd hl hS D i [] t (fun k e hk hdt _ => ⟨hpl k (hp k e hk hdt), fun hv => absurd hv (hsome k e hk)⟩) (fun k e hk hdt _ => hS.lt i o ho k (hp k e hk hdt))
    refine guardO_ok ho hS D.st hag h fun v' w' ⟨hv, hI'⟩ => ?_
    have hset : (fun j => (listed.setIfInBounds i true).getD j true) = setS (fun j => listed.getD j true) i := by
      funext j
      unfold setS
      by_cases hji : j = i
      · subst hji
        have : j < listed.size := by omega
        simp [this]
      · have : Nat.beq j i = false := Bool.eq_false_iff.2 fun e => hji (Nat.eq_of_beq_eq_true e)
        rw [this, getD_set_ne true (fun e => hji e.symm)]
        rfl
    refine ih _ _ _ _ _ (by simp [hsz]) (by have := countP_set listed i hun; omega) (InvD.step (v := v') hS hl hd hfree D hsz ho hiE hnl (Ext.refl _) (by rw [he]; exact hv)) ?_
    rw [hset]
    exact hI'
end
/-- What is asked at a region that draws its order: an invariant over the operations that are done; each operation's value is settled. -/
theorem DrawV.inv {P : Program} {n id : Nat} {ops : Array Oper} {Q : Exit → (Nat → Value) → World → Prop} {ρ : Nat → Value} {w : World} (I : (Nat → Bool) → World → Prop) (hm : P.follows .mixedOrders = true) (hB : shapeD n ops = true)
    (h0 : I (fun j => Nat.ble ops.size j) w.drew) (h : regI P ops.toList I (fun ρ' w' => Q .normal ρ' w') ops.toList 0 ρ) : DrawV P n id ops Q ρ w := by
  refine ⟨fun a ha => wp_region_any hm ?_⟩
  obtain ⟨E, h1, h2, h3⟩ := regI_all ops.toList [] ρ h
  refine wpAny_inv (I := I) (Q := fun ρ' w' => Q .normal ρ' w') (E := E) (w0 := w.drew) (ρ := ρ) (fun ρ a w h1 h2 => ⟨ρ, h1, h2⟩) (shapeD_ok hB) (by simpa using h1) (fun i o e ho he => ?_) (by simpa using h3) _ _ (fun _ => undef) ρ a _ (by simp) (by simp) ⟨Ext.refl _, ha, ?_, ?_, fun t _ => rfl⟩ ?_
  · have := h2 i o e (by simpa using ho) he
    simpa using this
  · intro k hk; rw [getD_replicate_false'] at hk; cases hk
  · intro k hk; rw [getD_replicate_false'] at hk; cases hk
  · have : (fun j => (Array.replicate ops.size false).getD j true) = fun j => Nat.ble ops.size j := by
      funext j
      rcases Nat.lt_or_ge j ops.size with hj | hj
      · have h2 : Nat.ble ops.size j = false := Bool.eq_false_iff.2 fun e => by have := Nat.le_of_ble_eq_true e; omega
        simp [hj, h2]
      · rw [Nat.ble_eq_true_of_le hj]; simp [hj]
    rw [this]
    exact h0
end V
end Go.Proofs.YtajgbepghniciaaGreatDoor
