/- Lemmas and contracts of functions on the way to the law's card (part 3 of 17). -/
import Derived.Test.YtajgbepghniciaaGreatDoorJC2
import Derived.Test.YtajgbepghniciaaGreatDoorRows
namespace Go.Proofs.YtajgbepghniciaaGreatDoor
open Go.RowKit V
set_option maxRecDepth 100000

theorem gv_of {P : Program} {f : FuncId} {vs : List Value} {w : World} {v : Value} (he : enters P f = true) (h : Calls P f vs.toArray w fun e w' => e = .returned v ∧ w' = w) :
    Gv P f vs w fun u w' => u = v ∧ w' = w := ⟨he, h.mono fun _ _ ⟨h1, h2⟩ => ⟨v, h1, rfl, h2⟩⟩

/-- the signs that are barred, besides blanks -/
def signs : ByteArray := ⟨#[60, 62, 34, 123, 125, 124, 94, 96, 92]⟩

theorem indexByte_any (s : ByteArray) (c : Int) (w : World) :
    Gv Tryz.prog 293 [.string s, .int .u8 c] w fun v w' => v = .int .i64 (Lib.indexByte s.data.toList c.toNat.toUInt8) ∧ w' = w :=
  gv_of (by kernel_rfl) (Tryz.strings_IndexByte s c w)

theorem validRune_any (r : Int) (w : World) :
    Gv Tryz.prog 314 [.int .i32 r] w fun v w' => v = .bool (Lib.validRune r) ∧ w' = w :=
  gv_of (by kernel_rfl) (Tryz.utf8_ValidRune r w)

theorem encode_high (r : Nat) (h : 128 ≤ r) : 2 ≤ (Utf8.encode r).size ∧ (Utf8.encode r).size ≤ 4 ∧ 128 ≤ (gb (Utf8.encode r) ((Utf8.encode r).size - 1)).toNat := by
  unfold Utf8.encode
  simp only
  obtain ⟨c, hc, hc2⟩ : ∃ c, (if Utf8.valid r = true then (r : Int).toNat else Utf8.runeError) = c ∧ 128 ≤ c := by
    refine ⟨_, rfl, ?_⟩
    split
    · simpa using h
    · decide
  rw [hc]
  rw [if_neg (by omega)]
  have hm : c % 64 < 64 := Nat.mod_lt _ (by omega)
  split
  · refine ⟨show 2 ≤ 2 by decide, show 2 ≤ 4 by decide, ?_⟩
    show 128 ≤ (UInt8.ofNat (0x80 + c % 64)).toNat
    rw [UInt8.toNat_ofNat', Nat.mod_eq_of_lt (by omega)]; omega
  · split
    · refine ⟨show 2 ≤ 3 by decide, show 3 ≤ 4 by decide, ?_⟩
      show 128 ≤ (UInt8.ofNat (0x80 + c % 64)).toNat
      rw [UInt8.toNat_ofNat', Nat.mod_eq_of_lt (by omega)]; omega
    · refine ⟨show 2 ≤ 4 by decide, show 4 ≤ 4 by decide, ?_⟩
      show 128 ≤ (UInt8.ofNat (0x80 + c % 64)).toNat
      rw [UInt8.toNat_ofNat', Nat.mod_eq_of_lt (by omega)]; omega
theorem signs_decode : ∀ pos : Fin 9, (Utf8.decode signs pos.1).2 = 1 ∧ (Utf8.decode signs pos.1).1 < 128 := by decide
theorem signs_low : ∀ pos : Fin 9, (gb signs pos.1).toNat < 128 := by decide
theorem signs_all : ∀ y ∈ signs.data.toList, y.toNat < 128 := by
  intro y hy
  simp only [signs, List.mem_cons, List.not_mem_nil, or_false] at hy
  rcases hy with rfl | rfl | rfl | rfl | rfl | rfl | rfl | rfl | rfl <;> decide
theorem indexByte_none (l : List UInt8) (c : UInt8) (h : ∀ x ∈ l, x ≠ c) : Lib.indexByte l c = -1 := by
  induction l with
  | nil => rfl
  | cons x l ih =>
    have h1 : (x == c) = false := by simpa using h x (by simp)
    have h2 := ih fun y hy => h y (by simp [hy])
    simp only [Lib.indexByte, h1, h2]
    simp

/-- a rune beyond ASCII does not stand among the signs -/
theorem indexRune_high (r : Nat) (h0 : 128 ≤ r) (h1 : r ≤ 1114111) (w : World) :
    Gv Tryz.prog 302 [.string signs, .int .i32 r] w fun v w' => v = .int .i64 (-1) ∧ Ext w w' := by
  have he := encode_high r h0
  refine gv (by kernel_rfl) Tryz.func302 rfl Tryz.ntmps302 rfl ?_; conv => whnf
  (repeat' (first
      | (refine Obl.mk ⟨by omega, by omega⟩ ?_; conv => whnf)
      | (refine Obl.mk ⟨by omega, by omega, ⟨by omega, by omega⟩⟩ ?_; conv => whnf)
      | ((with_reducible refine Tst.tt ?_); conv => whnf)
      | ((with_reducible refine Tst.ff ?_); conv => whnf)
      | ((with_reducible refine Tst.dec (fun _ => ?_) (fun _ => ?_)) <;> first | (exfalso; omega) | (conv => whnf))
      | ((with_reducible refine Tst.not ?_))
      | (refine Wit.conv ⟨by omega, by omega⟩ ?_; conv => whnf)
      | ((with_reducible refine IdxV.nat (by omega) ?_); conv => whnf)
      | ((with_reducible refine SameW.mk rfl ?_); conv => whnf)
      | (refine LoadV.mem (i := 0) (by assumption) rfl rfl ?_; conv => whnf)
      | (refine LoadV.mem (i := 1) (by assumption) rfl rfl ?_; conv => whnf)
      | (refine LoadV.mem (i := 2) (by assumption) rfl rfl ?_; conv => whnf)
      | ((with_reducible refine Tst.beqT ?_))
      | ((with_reducible refine Tst.beqF ?_))
      | (refine Tst.yes rfl ?_; conv => whnf)
      | (refine Tst.no rfl ?_; conv => whnf)))
  · refine NewV.mem (Mem.nil w) ?_
    intro b w1 hm
    (conv => whnf)
    refine loopV (fun pos : Nat => [(175, .pointer (some ⟨b, 0, none⟩))]) (fun pos w2 => pos ≤ 9 ∧ Mem w w2 [(b, .stringIter signs pos)]) (fun pos => 9 - pos) 0 ⟨rfl, trivial⟩ ⟨by omega, hm⟩ ?_
    rintro pos w2 ρ' ⟨hp, hm⟩
    (conv => whnf)
    refine NextS.mem hm (i := 0) rfl ?_ ?_
    · intro hlt w3 hm3
      have hlt' : pos < 9 := hlt
      have hd := signs_decode ⟨pos, hlt'⟩
      simp only at hd
      rw [hd.1] at hm3
      (conv => whnf)
      (repeat' (first
      | (refine Obl.mk ⟨by omega, by omega⟩ ?_; conv => whnf)
      | (refine Obl.mk ⟨by omega, by omega, ⟨by omega, by omega⟩⟩ ?_; conv => whnf)
      | ((with_reducible refine Tst.tt ?_); conv => whnf)
      | ((with_reducible refine Tst.ff ?_); conv => whnf)
      | ((with_reducible refine Tst.dec (fun _ => ?_) (fun _ => ?_)) <;> first | (exfalso; omega) | (conv => whnf))
      | ((with_reducible refine Tst.not ?_))
      | (refine Wit.conv ⟨by omega, by omega⟩ ?_; conv => whnf)
      | ((with_reducible refine IdxV.nat (by omega) ?_); conv => whnf)
      | ((with_reducible refine SameW.mk rfl ?_); conv => whnf)
      | (refine LoadV.mem (i := 0) (by assumption) rfl rfl ?_; conv => whnf)
      | (refine LoadV.mem (i := 1) (by assumption) rfl rfl ?_; conv => whnf)
      | (refine LoadV.mem (i := 2) (by assumption) rfl rfl ?_; conv => whnf)
      | ((with_reducible refine Tst.beqT ?_))
      | ((with_reducible refine Tst.beqF ?_))
      | (refine Tst.yes rfl ?_; conv => whnf)
      | (refine Tst.no rfl ?_; conv => whnf)))
      exact ⟨pos + 1, ⟨rfl, trivial⟩, ⟨by omega, hm3⟩, by omega⟩
    · intro hge
      (conv => whnf)
      (repeat' (first
      | (refine Obl.mk ⟨by omega, by omega⟩ ?_; conv => whnf)
      | (refine Obl.mk ⟨by omega, by omega, ⟨by omega, by omega⟩⟩ ?_; conv => whnf)
      | ((with_reducible refine Tst.tt ?_); conv => whnf)
      | ((with_reducible refine Tst.ff ?_); conv => whnf)
      | ((with_reducible refine Tst.dec (fun _ => ?_) (fun _ => ?_)) <;> first | (exfalso; omega) | (conv => whnf))
      | ((with_reducible refine Tst.not ?_))
      | (refine Wit.conv ⟨by omega, by omega⟩ ?_; conv => whnf)
      | ((with_reducible refine IdxV.nat (by omega) ?_); conv => whnf)
      | ((with_reducible refine SameW.mk rfl ?_); conv => whnf)
      | (refine LoadV.mem (i := 0) (by assumption) rfl rfl ?_; conv => whnf)
      | (refine LoadV.mem (i := 1) (by assumption) rfl rfl ?_; conv => whnf)
      | (refine LoadV.mem (i := 2) (by assumption) rfl rfl ?_; conv => whnf)
      | ((with_reducible refine Tst.beqT ?_))
      | ((with_reducible refine Tst.beqF ?_))
      | (refine Tst.yes rfl ?_; conv => whnf)
      | (refine Tst.no rfl ?_; conv => whnf)))
      exact ⟨rfl, hm.ext⟩
  · refine CallV.of (validRune_any _ _) ?_
    rintro v w1 ⟨rfl, rfl⟩
    (conv => whnf)
    cases hv : Lib.validRune r
    · (conv => whnf)
      (repeat' (first
      | (refine Obl.mk ⟨by omega, by omega⟩ ?_; conv => whnf)
      | (refine Obl.mk ⟨by omega, by omega, ⟨by omega, by omega⟩⟩ ?_; conv => whnf)
      | ((with_reducible refine Tst.tt ?_); conv => whnf)
      | ((with_reducible refine Tst.ff ?_); conv => whnf)
      | ((with_reducible refine Tst.dec (fun _ => ?_) (fun _ => ?_)) <;> first | (exfalso; omega) | (conv => whnf))
      | ((with_reducible refine Tst.not ?_))
      | (refine Wit.conv ⟨by omega, by omega⟩ ?_; conv => whnf)
      | ((with_reducible refine IdxV.nat (by omega) ?_); conv => whnf)
      | ((with_reducible refine SameW.mk rfl ?_); conv => whnf)
      | (refine LoadV.mem (i := 0) (by assumption) rfl rfl ?_; conv => whnf)
      | (refine LoadV.mem (i := 1) (by assumption) rfl rfl ?_; conv => whnf)
      | (refine LoadV.mem (i := 2) (by assumption) rfl rfl ?_; conv => whnf)
      | ((with_reducible refine Tst.beqT ?_))
      | ((with_reducible refine Tst.beqF ?_))
      | (refine Tst.yes rfl ?_; conv => whnf)
      | (refine Tst.no rfl ?_; conv => whnf)))
      exact ⟨rfl, Ext.refl _⟩
    · (conv => whnf)
      (repeat' (first
      | (refine Obl.mk ⟨by omega, by omega⟩ ?_; conv => whnf)
      | (refine Obl.mk ⟨by omega, by omega, ⟨by omega, by omega⟩⟩ ?_; conv => whnf)
      | ((with_reducible refine Tst.tt ?_); conv => whnf)
      | ((with_reducible refine Tst.ff ?_); conv => whnf)
      | ((with_reducible refine Tst.dec (fun _ => ?_) (fun _ => ?_)) <;> first | (exfalso; omega) | (conv => whnf))
      | ((with_reducible refine Tst.not ?_))
      | (refine Wit.conv ⟨by omega, by omega⟩ ?_; conv => whnf)
      | ((with_reducible refine IdxV.nat (by omega) ?_); conv => whnf)
      | ((with_reducible refine SameW.mk rfl ?_); conv => whnf)
      | (refine LoadV.mem (i := 0) (by assumption) rfl rfl ?_; conv => whnf)
      | (refine LoadV.mem (i := 1) (by assumption) rfl rfl ?_; conv => whnf)
      | (refine LoadV.mem (i := 2) (by assumption) rfl rfl ?_; conv => whnf)
      | ((with_reducible refine Tst.beqT ?_))
      | ((with_reducible refine Tst.beqF ?_))
      | (refine Tst.yes rfl ?_; conv => whnf)
      | (refine Tst.no rfl ?_; conv => whnf)))
      refine ScopeV.straight ?_
      (conv => whnf)
      (repeat' (first
      | (refine Obl.mk ⟨by omega, by omega⟩ ?_; conv => whnf)
      | (refine Obl.mk ⟨by omega, by omega, ⟨by omega, by omega⟩⟩ ?_; conv => whnf)
      | ((with_reducible refine Tst.tt ?_); conv => whnf)
      | ((with_reducible refine Tst.ff ?_); conv => whnf)
      | ((with_reducible refine Tst.dec (fun _ => ?_) (fun _ => ?_)) <;> first | (exfalso; omega) | (conv => whnf))
      | ((with_reducible refine Tst.not ?_))
      | (refine Wit.conv ⟨by omega, by omega⟩ ?_; conv => whnf)
      | ((with_reducible refine IdxV.nat (by omega) ?_); conv => whnf)
      | ((with_reducible refine SameW.mk rfl ?_); conv => whnf)
      | (refine LoadV.mem (i := 0) (by assumption) rfl rfl ?_; conv => whnf)
      | (refine LoadV.mem (i := 1) (by assumption) rfl rfl ?_; conv => whnf)
      | (refine LoadV.mem (i := 2) (by assumption) rfl rfl ?_; conv => whnf)
      | ((with_reducible refine Tst.beqT ?_))
      | ((with_reducible refine Tst.beqF ?_))
      | (refine Tst.yes rfl ?_; conv => whnf)
      | (refine Tst.no rfl ?_; conv => whnf)))
      have hsg : signs.size = 9 := rfl
      refine loopV (fun _ : Unit => [(0, .string signs), (7, .string (Utf8.encode r)), (8, .int .i64 ((Utf8.encode r).size - 1)), (9, .int .i64 ((Utf8.encode r).size - 1))]) (fun _ w2 => w2 = w1) (fun _ => 0) () ⟨rfl, rfl, rfl, rfl, trivial⟩ rfl ?_
      rintro _ w2 ρ' rfl
      (conv => whnf)
      (repeat' (first
      | (refine Obl.mk ⟨by omega, by omega⟩ ?_; conv => whnf)
      | (refine Obl.mk ⟨by omega, by omega, ⟨by omega, by omega⟩⟩ ?_; conv => whnf)
      | ((with_reducible refine Tst.tt ?_); conv => whnf)
      | ((with_reducible refine Tst.ff ?_); conv => whnf)
      | ((with_reducible refine Tst.dec (fun _ => ?_) (fun _ => ?_)) <;> first | (exfalso; omega) | (conv => whnf))
      | ((with_reducible refine Tst.not ?_))
      | (refine Wit.conv ⟨by omega, by omega⟩ ?_; conv => whnf)
      | ((with_reducible refine IdxV.nat (by omega) ?_); conv => whnf)
      | ((with_reducible refine SameW.mk rfl ?_); conv => whnf)
      | (refine LoadV.mem (i := 0) (by assumption) rfl rfl ?_; conv => whnf)
      | (refine LoadV.mem (i := 1) (by assumption) rfl rfl ?_; conv => whnf)
      | (refine LoadV.mem (i := 2) (by assumption) rfl rfl ?_; conv => whnf)
      | ((with_reducible refine Tst.beqT ?_))
      | ((with_reducible refine Tst.beqF ?_))
      | (refine Tst.yes rfl ?_; conv => whnf)
      | (refine Tst.no rfl ?_; conv => whnf)))
      refine ScopeV.straight ?_
      (conv => whnf)
      refine DrawV.quiet (by kernel_rfl) (by kernel_rfl) ?_; conv => whnf
      (repeat' (first
      | (refine Obl.mk ⟨by omega, by omega⟩ ?_; conv => whnf)
      | (refine Obl.mk ⟨by omega, by omega, ⟨by omega, by omega⟩⟩ ?_; conv => whnf)
      | ((with_reducible refine Tst.tt ?_); conv => whnf)
      | ((with_reducible refine Tst.ff ?_); conv => whnf)
      | ((with_reducible refine Tst.dec (fun _ => ?_) (fun _ => ?_)) <;> first | (exfalso; omega) | (conv => whnf))
      | ((with_reducible refine Tst.not ?_))
      | (refine Wit.conv ⟨by omega, by omega⟩ ?_; conv => whnf)
      | ((with_reducible refine IdxV.nat (by omega) ?_); conv => whnf)
      | ((with_reducible refine SameW.mk rfl ?_); conv => whnf)
      | (refine LoadV.mem (i := 0) (by assumption) rfl rfl ?_; conv => whnf)
      | (refine LoadV.mem (i := 1) (by assumption) rfl rfl ?_; conv => whnf)
      | (refine LoadV.mem (i := 2) (by assumption) rfl rfl ?_; conv => whnf)
      | ((with_reducible refine Tst.beqT ?_))
      | ((with_reducible refine Tst.beqF ?_))
      | (refine Tst.yes rfl ?_; conv => whnf)
      | (refine Tst.no rfl ?_; conv => whnf)))
      refine IdxV.at_ ((Utf8.encode r).size - 1) (by omega) (by omega) ?_
      (conv => whnf)
      (repeat' (first
      | (refine Obl.mk ⟨by omega, by omega⟩ ?_; conv => whnf)
      | (refine Obl.mk ⟨by omega, by omega, ⟨by omega, by omega⟩⟩ ?_; conv => whnf)
      | ((with_reducible refine Tst.tt ?_); conv => whnf)
      | ((with_reducible refine Tst.ff ?_); conv => whnf)
      | ((with_reducible refine Tst.dec (fun _ => ?_) (fun _ => ?_)) <;> first | (exfalso; omega) | (conv => whnf))
      | ((with_reducible refine Tst.not ?_))
      | (refine Wit.conv ⟨by omega, by omega⟩ ?_; conv => whnf)
      | ((with_reducible refine IdxV.nat (by omega) ?_); conv => whnf)
      | ((with_reducible refine SameW.mk rfl ?_); conv => whnf)
      | (refine LoadV.mem (i := 0) (by assumption) rfl rfl ?_; conv => whnf)
      | (refine LoadV.mem (i := 1) (by assumption) rfl rfl ?_; conv => whnf)
      | (refine LoadV.mem (i := 2) (by assumption) rfl rfl ?_; conv => whnf)
      | ((with_reducible refine Tst.beqT ?_))
      | ((with_reducible refine Tst.beqF ?_))
      | (refine Tst.yes rfl ?_; conv => whnf)
      | (refine Tst.no rfl ?_; conv => whnf)))
      refine IdxV.at_ ((Utf8.encode r).size - 1) (by omega) (by omega) ?_
      (conv => whnf)
      (repeat' (first
      | (refine Obl.mk ⟨by omega, by omega⟩ ?_; conv => whnf)
      | (refine Obl.mk ⟨by omega, by omega, ⟨by omega, by omega⟩⟩ ?_; conv => whnf)
      | ((with_reducible refine Tst.tt ?_); conv => whnf)
      | ((with_reducible refine Tst.ff ?_); conv => whnf)
      | ((with_reducible refine Tst.dec (fun _ => ?_) (fun _ => ?_)) <;> first | (exfalso; omega) | (conv => whnf))
      | ((with_reducible refine Tst.not ?_))
      | (refine Wit.conv ⟨by omega, by omega⟩ ?_; conv => whnf)
      | ((with_reducible refine IdxV.nat (by omega) ?_); conv => whnf)
      | ((with_reducible refine SameW.mk rfl ?_); conv => whnf)
      | (refine LoadV.mem (i := 0) (by assumption) rfl rfl ?_; conv => whnf)
      | (refine LoadV.mem (i := 1) (by assumption) rfl rfl ?_; conv => whnf)
      | (refine LoadV.mem (i := 2) (by assumption) rfl rfl ?_; conv => whnf)
      | ((with_reducible refine Tst.beqT ?_))
      | ((with_reducible refine Tst.beqF ?_))
      | (refine Tst.yes rfl ?_; conv => whnf)
      | (refine Tst.no rfl ?_; conv => whnf)))
      have hlow := signs_low ⟨(Utf8.encode r).size - 1, by omega⟩
      simp only at hlow
      · refine DrawV.quiet (by kernel_rfl) (by kernel_rfl) ?_; conv => whnf
        (repeat' (first
      | (refine Obl.mk ⟨by omega, by omega⟩ ?_; conv => whnf)
      | (refine Obl.mk ⟨by omega, by omega, ⟨by omega, by omega⟩⟩ ?_; conv => whnf)
      | ((with_reducible refine Tst.tt ?_); conv => whnf)
      | ((with_reducible refine Tst.ff ?_); conv => whnf)
      | ((with_reducible refine Tst.dec (fun _ => ?_) (fun _ => ?_)) <;> first | (exfalso; omega) | (conv => whnf))
      | ((with_reducible refine Tst.not ?_))
      | (refine Wit.conv ⟨by omega, by omega⟩ ?_; conv => whnf)
      | ((with_reducible refine IdxV.nat (by omega) ?_); conv => whnf)
      | ((with_reducible refine SameW.mk rfl ?_); conv => whnf)
      | (refine LoadV.mem (i := 0) (by assumption) rfl rfl ?_; conv => whnf)
      | (refine LoadV.mem (i := 1) (by assumption) rfl rfl ?_; conv => whnf)
      | (refine LoadV.mem (i := 2) (by assumption) rfl rfl ?_; conv => whnf)
      | ((with_reducible refine Tst.beqT ?_))
      | ((with_reducible refine Tst.beqF ?_))
      | (refine Tst.yes rfl ?_; conv => whnf)
      | (refine Tst.no rfl ?_; conv => whnf)))
        refine SliceS.at_ (Utf8.encode r).size 9 (show (((Utf8.encode (r : Int)).size : Int) - 1 + 1 : Int) = ((Utf8.encode (r : Int)).size : Int) by omega) rfl (by omega) (by decide) ?_
        (conv => whnf)
        (repeat' (first
      | (refine Obl.mk ⟨by omega, by omega⟩ ?_; conv => whnf)
      | (refine Obl.mk ⟨by omega, by omega, ⟨by omega, by omega⟩⟩ ?_; conv => whnf)
      | ((with_reducible refine Tst.tt ?_); conv => whnf)
      | ((with_reducible refine Tst.ff ?_); conv => whnf)
      | ((with_reducible refine Tst.dec (fun _ => ?_) (fun _ => ?_)) <;> first | (exfalso; omega) | (conv => whnf))
      | ((with_reducible refine Tst.not ?_))
      | (refine Wit.conv ⟨by omega, by omega⟩ ?_; conv => whnf)
      | ((with_reducible refine IdxV.nat (by omega) ?_); conv => whnf)
      | ((with_reducible refine SameW.mk rfl ?_); conv => whnf)
      | (refine LoadV.mem (i := 0) (by assumption) rfl rfl ?_; conv => whnf)
      | (refine LoadV.mem (i := 1) (by assumption) rfl rfl ?_; conv => whnf)
      | (refine LoadV.mem (i := 2) (by assumption) rfl rfl ?_; conv => whnf)
      | ((with_reducible refine Tst.beqT ?_))
      | ((with_reducible refine Tst.beqF ?_))
      | (refine Tst.yes rfl ?_; conv => whnf)
      | (refine Tst.no rfl ?_; conv => whnf)))
        refine IdxV.at_ ((Utf8.encode r).size - 1) (by omega) (by omega) ?_
        (conv => whnf)
        (repeat' (first
      | (refine Obl.mk ⟨by omega, by omega⟩ ?_; conv => whnf)
      | (refine Obl.mk ⟨by omega, by omega, ⟨by omega, by omega⟩⟩ ?_; conv => whnf)
      | ((with_reducible refine Tst.tt ?_); conv => whnf)
      | ((with_reducible refine Tst.ff ?_); conv => whnf)
      | ((with_reducible refine Tst.dec (fun _ => ?_) (fun _ => ?_)) <;> first | (exfalso; omega) | (conv => whnf))
      | ((with_reducible refine Tst.not ?_))
      | (refine Wit.conv ⟨by omega, by omega⟩ ?_; conv => whnf)
      | ((with_reducible refine IdxV.nat (by omega) ?_); conv => whnf)
      | ((with_reducible refine SameW.mk rfl ?_); conv => whnf)
      | (refine LoadV.mem (i := 0) (by assumption) rfl rfl ?_; conv => whnf)
      | (refine LoadV.mem (i := 1) (by assumption) rfl rfl ?_; conv => whnf)
      | (refine LoadV.mem (i := 2) (by assumption) rfl rfl ?_; conv => whnf)
      | ((with_reducible refine Tst.beqT ?_))
      | ((with_reducible refine Tst.beqF ?_))
      | (refine Tst.yes rfl ?_; conv => whnf)
      | (refine Tst.no rfl ?_; conv => whnf)))
        refine ⟨_, indexByte_any _ _ _, ?_⟩
        rw [indexByte_none]
        · (conv => whnf)
          (repeat' (first
      | (refine Obl.mk ⟨by omega, by omega⟩ ?_; conv => whnf)
      | (refine Obl.mk ⟨by omega, by omega, ⟨by omega, by omega⟩⟩ ?_; conv => whnf)
      | ((with_reducible refine Tst.tt ?_); conv => whnf)
      | ((with_reducible refine Tst.ff ?_); conv => whnf)
      | ((with_reducible refine Tst.dec (fun _ => ?_) (fun _ => ?_)) <;> first | (exfalso; omega) | (conv => whnf))
      | ((with_reducible refine Tst.not ?_))
      | (refine Wit.conv ⟨by omega, by omega⟩ ?_; conv => whnf)
      | ((with_reducible refine IdxV.nat (by omega) ?_); conv => whnf)
      | ((with_reducible refine SameW.mk rfl ?_); conv => whnf)
      | (refine LoadV.mem (i := 0) (by assumption) rfl rfl ?_; conv => whnf)
      | (refine LoadV.mem (i := 1) (by assumption) rfl rfl ?_; conv => whnf)
      | (refine LoadV.mem (i := 2) (by assumption) rfl rfl ?_; conv => whnf)
      | ((with_reducible refine Tst.beqT ?_))
      | ((with_reducible refine Tst.beqF ?_))
      | (refine Tst.yes rfl ?_; conv => whnf)
      | (refine Tst.no rfl ?_; conv => whnf)))
          exact ⟨rfl, (Ext.refl _).drew.drew⟩
        · intro x hx e
          rw [Lib.extract_data] at hx
          have hx1 := List.mem_of_mem_take hx
          have h2 := signs_all x (List.mem_of_mem_drop hx1)
          rw [e] at h2
          have h3 : ((((gb (Utf8.encode (r : Int)) ((Utf8.encode (r : Int)).size - 1)).toNat : Int)).toNat.toUInt8).toNat = (gb (Utf8.encode (r : Int)) ((Utf8.encode (r : Int)).size - 1)).toNat := by
            rw [Int.toNat_natCast]; simp
          omega
      · have hlow := signs_low ⟨(Utf8.encode r).size - 1, by omega⟩
        simp only at hlow
        omega

theorem indexByte_ge (l : List UInt8) (c : UInt8) : -1 ≤ Lib.indexByte l c := by
  induction l with
  | nil => exact Int.le_refl _
  | cons x l ih =>
    simp only [Lib.indexByte]
    split
    · omega
    · split <;> omega
theorem indexByte_mem (l : List UInt8) (c : UInt8) : 0 ≤ Lib.indexByte l c ↔ c ∈ l := by
  induction l with
  | nil => simp [Lib.indexByte]
  | cons x l ih =>
    simp only [Lib.indexByte, List.mem_cons]
    by_cases h : x = c
    · subst h
      simp
    · have h1 : (x == c) = false := by simpa using h
      have h2 : ¬ c = x := fun e => h e.symm
      rw [h1]
      simp only [Bool.false_eq_true, if_false, h2, false_or, ← ih]
      have hge := indexByte_ge l c
      split
      · rename_i e; simp at e; omega
      · rename_i e; simp at e; omega

/-- barred in a reference -/
def barB (c : UInt8) : Bool := decide (c.toNat ≤ 32 ∨ c ∈ signs.data.toList)
def barR (r : Nat) : Bool := decide (r < 128) && barB (UInt8.ofNat r)
theorem contains_any (r : Nat) (h1 : r ≤ 1114111) (w : World) :
    Gv Tryz.prog 255 [.string signs, .int .i32 r] w fun v w' => v = .bool (decide (r < 128 ∧ UInt8.ofNat r ∈ signs.data.toList)) ∧ Ext w w' := by
  by_cases h : r < 128
  · have hk := Tryz.strings_ContainsRune_ascii signs (r : Int) w (by omega) (by omega)
    refine (gv_of (by kernel_rfl) hk).mono ?_
    rintro v w' ⟨rfl, rfl⟩
    refine ⟨congrArg Value.bool ?_, Ext.refl _⟩
    rw [Bool.eq_iff_iff, decide_eq_true_iff, decide_eq_true_iff, indexByte_mem]
    simp [h]
  · refine gv (by kernel_rfl) Tryz.func255 rfl Tryz.ntmps255 rfl ?_; conv => whnf
    refine CallV.of (indexRune_high r (by omega) h1 w) ?_
    rintro v w' ⟨rfl, he⟩
    (conv => whnf)
    (repeat' (first
      | (refine Obl.mk ⟨by omega, by omega⟩ ?_; conv => whnf)
      | (refine Obl.mk ⟨by omega, by omega, ⟨by omega, by omega⟩⟩ ?_; conv => whnf)
      | ((with_reducible refine Tst.tt ?_); conv => whnf)
      | ((with_reducible refine Tst.ff ?_); conv => whnf)
      | ((with_reducible refine Tst.dec (fun _ => ?_) (fun _ => ?_)) <;> first | (exfalso; omega) | (conv => whnf))
      | ((with_reducible refine Tst.not ?_))
      | (refine Wit.conv ⟨by omega, by omega⟩ ?_; conv => whnf)
      | ((with_reducible refine IdxV.nat (by omega) ?_); conv => whnf)
      | ((with_reducible refine SameW.mk rfl ?_); conv => whnf)
      | (refine LoadV.mem (i := 0) (by assumption) rfl rfl ?_; conv => whnf)
      | (refine LoadV.mem (i := 1) (by assumption) rfl rfl ?_; conv => whnf)
      | (refine LoadV.mem (i := 2) (by assumption) rfl rfl ?_; conv => whnf)
      | ((with_reducible refine Tst.beqT ?_))
      | ((with_reducible refine Tst.beqF ?_))
      | (refine Tst.yes rfl ?_; conv => whnf)
      | (refine Tst.no rfl ?_; conv => whnf)))
    exact ⟨congrArg Value.bool (decide_eq_false (fun hh => h hh.1)).symm, he⟩
theorem barred_any (r : Nat) (h1 : r ≤ 1114111) (w : World) :
    Gv Tryz.prog 209 [.int .i32 r] w fun v w' => v = .bool (barR r) ∧ Ext w w' := by
  have hn : r < 128 → (UInt8.ofNat r).toNat = r := fun h => by rw [UInt8.toNat_ofNat']; omega
  refine gv (by kernel_rfl) Tryz.func209 rfl Tryz.ntmps209 rfl ?_; conv => whnf
  (repeat' (first
      | (refine Obl.mk ⟨by omega, by omega⟩ ?_; conv => whnf)
      | (refine Obl.mk ⟨by omega, by omega, ⟨by omega, by omega⟩⟩ ?_; conv => whnf)
      | ((with_reducible refine Tst.tt ?_); conv => whnf)
      | ((with_reducible refine Tst.ff ?_); conv => whnf)
      | ((with_reducible refine Tst.dec (fun _ => ?_) (fun _ => ?_)) <;> first | (exfalso; omega) | (conv => whnf))
      | ((with_reducible refine Tst.not ?_))
      | (refine Wit.conv ⟨by omega, by omega⟩ ?_; conv => whnf)
      | ((with_reducible refine IdxV.nat (by omega) ?_); conv => whnf)
      | ((with_reducible refine SameW.mk rfl ?_); conv => whnf)
      | (refine LoadV.mem (i := 0) (by assumption) rfl rfl ?_; conv => whnf)
      | (refine LoadV.mem (i := 1) (by assumption) rfl rfl ?_; conv => whnf)
      | (refine LoadV.mem (i := 2) (by assumption) rfl rfl ?_; conv => whnf)
      | ((with_reducible refine Tst.beqT ?_))
      | ((with_reducible refine Tst.beqF ?_))
      | (refine Tst.yes rfl ?_; conv => whnf)
      | (refine Tst.no rfl ?_; conv => whnf)))
  · refine ⟨congrArg Value.bool ?_, Ext.refl _⟩
    have := hn (by omega)
    simp [barR, barB, this]; omega
  · refine CallV.of (contains_any r h1 w) ?_
    rintro v w' ⟨rfl, he⟩
    (conv => whnf)
    (repeat' (first
      | (refine Obl.mk ⟨by omega, by omega⟩ ?_; conv => whnf)
      | (refine Obl.mk ⟨by omega, by omega, ⟨by omega, by omega⟩⟩ ?_; conv => whnf)
      | ((with_reducible refine Tst.tt ?_); conv => whnf)
      | ((with_reducible refine Tst.ff ?_); conv => whnf)
      | ((with_reducible refine Tst.dec (fun _ => ?_) (fun _ => ?_)) <;> first | (exfalso; omega) | (conv => whnf))
      | ((with_reducible refine Tst.not ?_))
      | (refine Wit.conv ⟨by omega, by omega⟩ ?_; conv => whnf)
      | ((with_reducible refine IdxV.nat (by omega) ?_); conv => whnf)
      | ((with_reducible refine SameW.mk rfl ?_); conv => whnf)
      | (refine LoadV.mem (i := 0) (by assumption) rfl rfl ?_; conv => whnf)
      | (refine LoadV.mem (i := 1) (by assumption) rfl rfl ?_; conv => whnf)
      | (refine LoadV.mem (i := 2) (by assumption) rfl rfl ?_; conv => whnf)
      | ((with_reducible refine Tst.beqT ?_))
      | ((with_reducible refine Tst.beqF ?_))
      | (refine Tst.yes rfl ?_; conv => whnf)
      | (refine Tst.no rfl ?_; conv => whnf)))
    refine ⟨congrArg Value.bool ?_, he⟩
    by_cases h : r < 128
    · have := hn h
      simp [barR, barB, this, h]; omega
    · simp [barR, h]

theorem get!_gb (s : ByteArray) (k : Nat) : s.get! k = gb s k := by
  obtain ⟨⟨l⟩⟩ := s
  simp [ByteArray.get!, gb, List.getD_eq_getElem?_getD, getElem!_def]
  split
  · simp_all
  · rename_i h; simp_all; rfl
theorem decode_low (s : ByteArray) (pos : Nat) (hb : (gb s pos).toNat < 128) : Utf8.decode s pos = ((gb s pos).toNat, 1) := by
  unfold Utf8.decode
  simp only [Nat.add_zero, get!_gb]
  rw [if_pos hb]
theorem decode_hi (s : ByteArray) (pos : Nat) (h : pos < s.size) (hb : 128 ≤ (gb s pos).toNat) :
    128 ≤ (Utf8.decode s pos).1 ∧ (Utf8.decode s pos).1 ≤ 1114111 ∧ 1 ≤ (Utf8.decode s pos).2 ∧ pos + (Utf8.decode s pos).2 ≤ s.size ∧ ∀ j, j < (Utf8.decode s pos).2 → 128 ≤ (gb s (pos + j)).toNat := by
  unfold Utf8.decode
  simp only [Nat.add_zero, get!_gb]
  rw [if_neg (by omega)]
  have one : ∀ j, j < 1 → 128 ≤ (gb s (pos + j)).toNat := fun j hj => by obtain rfl : j = 0 := by omega
                                                                         exact hb
  have hb0 := (gb s pos).toNat_lt
  split
  · rename_i hc
    simp only [Bool.and_eq_true, beq_iff_eq, decide_eq_true_eq] at hc
    split
    · refine ⟨by omega, by dsimp only; omega, by dsimp only; omega, by dsimp only; omega, fun j hj => ?_⟩
      rcases Nat.lt_or_ge j 1 with h1 | h1
      · exact one j h1
      · obtain rfl : j = 1 := by dsimp only at hj; omega
        omega
    · exact ⟨by decide, by decide, by decide, by dsimp only; omega, one⟩
  · split
    · rename_i hc
      simp only [Bool.and_eq_true, beq_iff_eq, decide_eq_true_eq] at hc
      split
      · refine ⟨by dsimp only; simp at *; omega, by dsimp only; omega, by dsimp only; omega, by dsimp only; omega, fun j hj => ?_⟩
        rcases Nat.lt_or_ge j 1 with h1 | h1
        · exact one j h1
        · obtain rfl | rfl : j = 1 ∨ j = 2 := by dsimp only at hj; omega
          · omega
          · omega
      · exact ⟨by decide, by decide, by decide, by dsimp only; omega, one⟩
    · split
      · rename_i hc
        simp only [Bool.and_eq_true, beq_iff_eq, decide_eq_true_eq] at hc
        split
        · rename_i hv
          simp only [Bool.and_eq_true, decide_eq_true_eq, Utf8.valid, Bool.or_eq_true] at hv
          refine ⟨by dsimp only; omega, by dsimp only; omega, by dsimp only; omega, by dsimp only; omega, fun j hj => ?_⟩
          rcases Nat.lt_or_ge j 1 with h1 | h1
          · exact one j h1
          · obtain rfl | rfl | rfl : j = 1 ∨ j = 2 ∨ j = 3 := by dsimp only at hj; omega
            · omega
            · omega
            · omega
        · exact ⟨by decide, by decide, by decide, by dsimp only; omega, one⟩
      · exact ⟨by decide, by decide, by decide, by dsimp only; omega, one⟩

theorem any_drop_high (s : ByteArray) (n : Nat) : ∀ pos, pos + n ≤ s.size → (∀ j, j < n → 128 ≤ (gb s (pos + j)).toNat) →
    (s.data.toList.drop pos).any barB = (s.data.toList.drop (pos + n)).any barB := by
  induction n with
  | zero => intro pos _ _; rfl
  | succ n ih =>
    intro pos hle hh
    have h0 := hh 0 (by omega)
    have hb : barB (gb s pos) = false := by
      simp only [barB, decide_eq_false_iff_not, not_or]
      exact ⟨by simp only [Nat.add_zero] at h0; omega, fun hm => by have := signs_all _ hm; simp only [Nat.add_zero] at h0; omega⟩
    rw [drop_get s pos (by omega), List.any_cons, hb, Bool.false_or, ih (pos + 1) (by omega) (fun j hj => by have := hh (j + 1) (by omega); rwa [show pos + 1 + j = pos + (j + 1) from by omega])]
    congr 2; omega

theorem indexFunc_any (s : ByteArray) (hs : s.size ≤ 140737488355328) (w : World) :
    Gv Tryz.prog 208 [.string s, .func (.func 209) #[] #[]] w fun v w' => (∃ i : Int, v = .int .i64 i ∧ (0 ≤ i ↔ s.data.toList.any barB = true)) ∧ Ext w w' := by
  have hin : Gv Tryz.prog 254 [.string s, .func (.func 209) #[] #[], .bool true] w fun v w' => (∃ i : Int, v = .int .i64 i ∧ (0 ≤ i ↔ s.data.toList.any barB = true)) ∧ Ext w w' := by
    refine gv (by kernel_rfl) Tryz.func254 rfl Tryz.ntmps254 rfl ?_; conv => whnf
    (repeat' (first
      | (refine Obl.mk ⟨by omega, by omega⟩ ?_; conv => whnf)
      | (refine Obl.mk ⟨by omega, by omega, ⟨by omega, by omega⟩⟩ ?_; conv => whnf)
      | ((with_reducible refine Tst.tt ?_); conv => whnf)
      | ((with_reducible refine Tst.ff ?_); conv => whnf)
      | ((with_reducible refine Tst.dec (fun _ => ?_) (fun _ => ?_)) <;> first | (exfalso; omega) | (conv => whnf))
      | ((with_reducible refine Tst.not ?_))
      | (refine Wit.conv ⟨by omega, by omega⟩ ?_; conv => whnf)
      | ((with_reducible refine IdxV.nat (by omega) ?_); conv => whnf)
      | ((with_reducible refine SameW.mk rfl ?_); conv => whnf)
      | (refine LoadV.mem (i := 0) (by assumption) rfl rfl ?_; conv => whnf)
      | (refine LoadV.mem (i := 1) (by assumption) rfl rfl ?_; conv => whnf)
      | (refine LoadV.mem (i := 2) (by assumption) rfl rfl ?_; conv => whnf)
      | ((with_reducible refine Tst.beqT ?_))
      | ((with_reducible refine Tst.beqF ?_))
      | (refine Tst.yes rfl ?_; conv => whnf)
      | (refine Tst.no rfl ?_; conv => whnf)))
    refine NewV.mem (Mem.nil w) ?_
    intro b w1 hm
    (conv => whnf)
    refine loopV (fun pos : Nat => [(1, .func (.func 209) #[] #[]), (2, .bool true), (10, .pointer (some ⟨b, 0, none⟩))])
      (fun pos w2 => pos ≤ s.size ∧ Mem w w2 [(b, .stringIter s pos)] ∧ s.data.toList.any barB = (s.data.toList.drop pos).any barB) (fun pos => s.size - pos) 0 ⟨rfl, rfl, rfl, trivial⟩ ⟨by omega, hm, rfl⟩ ?_
    rintro pos w2 ρ' ⟨hp, hm, ha⟩
    (conv => whnf)
    refine NextS.mem hm (i := 0) rfl ?_ ?_
    · intro hlt w3 hm3
      by_cases hb : (gb s pos).toNat < 128
      · have hd := decode_low s pos hb
        rw [hd] at hm3 ⊢
        simp only at hm3 ⊢
        have hbb : UInt8.ofNat (gb s pos).toNat = gb s pos := by simp
        (conv => whnf)
        (repeat' (first
      | (refine Obl.mk ⟨by omega, by omega⟩ ?_; conv => whnf)
      | (refine Obl.mk ⟨by omega, by omega, ⟨by omega, by omega⟩⟩ ?_; conv => whnf)
      | ((with_reducible refine Tst.tt ?_); conv => whnf)
      | ((with_reducible refine Tst.ff ?_); conv => whnf)
      | ((with_reducible refine Tst.dec (fun _ => ?_) (fun _ => ?_)) <;> first | (exfalso; omega) | (conv => whnf))
      | ((with_reducible refine Tst.not ?_))
      | (refine Wit.conv ⟨by omega, by omega⟩ ?_; conv => whnf)
      | ((with_reducible refine IdxV.nat (by omega) ?_); conv => whnf)
      | ((with_reducible refine SameW.mk rfl ?_); conv => whnf)
      | (refine LoadV.mem (i := 0) (by assumption) rfl rfl ?_; conv => whnf)
      | (refine LoadV.mem (i := 1) (by assumption) rfl rfl ?_; conv => whnf)
      | (refine LoadV.mem (i := 2) (by assumption) rfl rfl ?_; conv => whnf)
      | ((with_reducible refine Tst.beqT ?_))
      | ((with_reducible refine Tst.beqF ?_))
      | (refine Tst.yes rfl ?_; conv => whnf)
      | (refine Tst.no rfl ?_; conv => whnf)))
        refine CallV.of (barred_any _ (by omega) _) ?_
        rintro v w4 ⟨rfl, he⟩
        have hm4 := hm3.call he
        (conv => whnf)
        have hbr : barR (gb s pos).toNat = barB (gb s pos) := by rw [barR, decide_eq_true hb, hbb, Bool.true_and]
        rw [hbr]
        cases hbar : barB (gb s pos)
        · (conv => whnf)
          (repeat' (first
      | (refine Obl.mk ⟨by omega, by omega⟩ ?_; conv => whnf)
      | (refine Obl.mk ⟨by omega, by omega, ⟨by omega, by omega⟩⟩ ?_; conv => whnf)
      | ((with_reducible refine Tst.tt ?_); conv => whnf)
      | ((with_reducible refine Tst.ff ?_); conv => whnf)
      | ((with_reducible refine Tst.dec (fun _ => ?_) (fun _ => ?_)) <;> first | (exfalso; omega) | (conv => whnf))
      | ((with_reducible refine Tst.not ?_))
      | (refine Wit.conv ⟨by omega, by omega⟩ ?_; conv => whnf)
      | ((with_reducible refine IdxV.nat (by omega) ?_); conv => whnf)
      | ((with_reducible refine SameW.mk rfl ?_); conv => whnf)
      | (refine LoadV.mem (i := 0) (by assumption) rfl rfl ?_; conv => whnf)
      | (refine LoadV.mem (i := 1) (by assumption) rfl rfl ?_; conv => whnf)
      | (refine LoadV.mem (i := 2) (by assumption) rfl rfl ?_; conv => whnf)
      | ((with_reducible refine Tst.beqT ?_))
      | ((with_reducible refine Tst.beqF ?_))
      | (refine Tst.yes rfl ?_; conv => whnf)
      | (refine Tst.no rfl ?_; conv => whnf)))
          refine ⟨pos + 1, ⟨rfl, rfl, rfl, trivial⟩, ⟨by omega, hm4, ?_⟩, by omega⟩
          rw [ha, drop_get s pos hlt, List.any_cons, hbar, Bool.false_or]
        · (conv => whnf)
          (repeat' (first
      | (refine Obl.mk ⟨by omega, by omega⟩ ?_; conv => whnf)
      | (refine Obl.mk ⟨by omega, by omega, ⟨by omega, by omega⟩⟩ ?_; conv => whnf)
      | ((with_reducible refine Tst.tt ?_); conv => whnf)
      | ((with_reducible refine Tst.ff ?_); conv => whnf)
      | ((with_reducible refine Tst.dec (fun _ => ?_) (fun _ => ?_)) <;> first | (exfalso; omega) | (conv => whnf))
      | ((with_reducible refine Tst.not ?_))
      | (refine Wit.conv ⟨by omega, by omega⟩ ?_; conv => whnf)
      | ((with_reducible refine IdxV.nat (by omega) ?_); conv => whnf)
      | ((with_reducible refine SameW.mk rfl ?_); conv => whnf)
      | (refine LoadV.mem (i := 0) (by assumption) rfl rfl ?_; conv => whnf)
      | (refine LoadV.mem (i := 1) (by assumption) rfl rfl ?_; conv => whnf)
      | (refine LoadV.mem (i := 2) (by assumption) rfl rfl ?_; conv => whnf)
      | ((with_reducible refine Tst.beqT ?_))
      | ((with_reducible refine Tst.beqF ?_))
      | (refine Tst.yes rfl ?_; conv => whnf)
      | (refine Tst.no rfl ?_; conv => whnf)))
          refine ⟨⟨pos, rfl, ?_⟩, hm4.ext⟩
          rw [ha, drop_get s pos hlt, List.any_cons, hbar]
          simp; try omega
      · have hd := decode_hi s pos hlt (by omega)
        obtain ⟨d1, d2, d3, d4, d5⟩ := hd
        (conv => whnf)
        (repeat' (first
      | (refine Obl.mk ⟨by omega, by omega⟩ ?_; conv => whnf)
      | (refine Obl.mk ⟨by omega, by omega, ⟨by omega, by omega⟩⟩ ?_; conv => whnf)
      | ((with_reducible refine Tst.tt ?_); conv => whnf)
      | ((with_reducible refine Tst.ff ?_); conv => whnf)
      | ((with_reducible refine Tst.dec (fun _ => ?_) (fun _ => ?_)) <;> first | (exfalso; omega) | (conv => whnf))
      | ((with_reducible refine Tst.not ?_))
      | (refine Wit.conv ⟨by omega, by omega⟩ ?_; conv => whnf)
      | ((with_reducible refine IdxV.nat (by omega) ?_); conv => whnf)
      | ((with_reducible refine SameW.mk rfl ?_); conv => whnf)
      | (refine LoadV.mem (i := 0) (by assumption) rfl rfl ?_; conv => whnf)
      | (refine LoadV.mem (i := 1) (by assumption) rfl rfl ?_; conv => whnf)
      | (refine LoadV.mem (i := 2) (by assumption) rfl rfl ?_; conv => whnf)
      | ((with_reducible refine Tst.beqT ?_))
      | ((with_reducible refine Tst.beqF ?_))
      | (refine Tst.yes rfl ?_; conv => whnf)
      | (refine Tst.no rfl ?_; conv => whnf)))
        refine CallV.of (barred_any _ d2 _) ?_
        rintro v w4 ⟨rfl, he⟩
        have hm4 := hm3.call he
        have hbr : barR (Utf8.decode s pos).1 = false := by simp [barR]; omega
        rw [hbr]
        (conv => whnf)
        (repeat' (first
      | (refine Obl.mk ⟨by omega, by omega⟩ ?_; conv => whnf)
      | (refine Obl.mk ⟨by omega, by omega, ⟨by omega, by omega⟩⟩ ?_; conv => whnf)
      | ((with_reducible refine Tst.tt ?_); conv => whnf)
      | ((with_reducible refine Tst.ff ?_); conv => whnf)
      | ((with_reducible refine Tst.dec (fun _ => ?_) (fun _ => ?_)) <;> first | (exfalso; omega) | (conv => whnf))
      | ((with_reducible refine Tst.not ?_))
      | (refine Wit.conv ⟨by omega, by omega⟩ ?_; conv => whnf)
      | ((with_reducible refine IdxV.nat (by omega) ?_); conv => whnf)
      | ((with_reducible refine SameW.mk rfl ?_); conv => whnf)
      | (refine LoadV.mem (i := 0) (by assumption) rfl rfl ?_; conv => whnf)
      | (refine LoadV.mem (i := 1) (by assumption) rfl rfl ?_; conv => whnf)
      | (refine LoadV.mem (i := 2) (by assumption) rfl rfl ?_; conv => whnf)
      | ((with_reducible refine Tst.beqT ?_))
      | ((with_reducible refine Tst.beqF ?_))
      | (refine Tst.yes rfl ?_; conv => whnf)
      | (refine Tst.no rfl ?_; conv => whnf)))
        refine ⟨pos + (Utf8.decode s pos).2, ⟨rfl, rfl, rfl, trivial⟩, ⟨by omega, hm4, ?_⟩, by omega⟩
        rw [ha]; exact any_drop_high s _ pos d4 d5
    · intro hge
      (conv => whnf)
      (repeat' (first
      | (refine Obl.mk ⟨by omega, by omega⟩ ?_; conv => whnf)
      | (refine Obl.mk ⟨by omega, by omega, ⟨by omega, by omega⟩⟩ ?_; conv => whnf)
      | ((with_reducible refine Tst.tt ?_); conv => whnf)
      | ((with_reducible refine Tst.ff ?_); conv => whnf)
      | ((with_reducible refine Tst.dec (fun _ => ?_) (fun _ => ?_)) <;> first | (exfalso; omega) | (conv => whnf))
      | ((with_reducible refine Tst.not ?_))
      | (refine Wit.conv ⟨by omega, by omega⟩ ?_; conv => whnf)
      | ((with_reducible refine IdxV.nat (by omega) ?_); conv => whnf)
      | ((with_reducible refine SameW.mk rfl ?_); conv => whnf)
      | (refine LoadV.mem (i := 0) (by assumption) rfl rfl ?_; conv => whnf)
      | (refine LoadV.mem (i := 1) (by assumption) rfl rfl ?_; conv => whnf)
      | (refine LoadV.mem (i := 2) (by assumption) rfl rfl ?_; conv => whnf)
      | ((with_reducible refine Tst.beqT ?_))
      | ((with_reducible refine Tst.beqF ?_))
      | (refine Tst.yes rfl ?_; conv => whnf)
      | (refine Tst.no rfl ?_; conv => whnf)))
      refine ⟨⟨-1, rfl, ?_⟩, hm.ext⟩
      rw [ha, List.drop_eq_nil_of_le (by simp; omega)]
      simp
  refine gv (by kernel_rfl) Tryz.func208 rfl Tryz.ntmps208 rfl ?_; conv => whnf
  refine CallV.of (hin) ?_
  rintro v w' ⟨⟨i, rfl, hi⟩, he⟩
  (conv => whnf)
  (repeat' (first
      | (refine Obl.mk ⟨by omega, by omega⟩ ?_; conv => whnf)
      | (refine Obl.mk ⟨by omega, by omega, ⟨by omega, by omega⟩⟩ ?_; conv => whnf)
      | ((with_reducible refine Tst.tt ?_); conv => whnf)
      | ((with_reducible refine Tst.ff ?_); conv => whnf)
      | ((with_reducible refine Tst.dec (fun _ => ?_) (fun _ => ?_)) <;> first | (exfalso; omega) | (conv => whnf))
      | ((with_reducible refine Tst.not ?_))
      | (refine Wit.conv ⟨by omega, by omega⟩ ?_; conv => whnf)
      | ((with_reducible refine IdxV.nat (by omega) ?_); conv => whnf)
      | ((with_reducible refine SameW.mk rfl ?_); conv => whnf)
      | (refine LoadV.mem (i := 0) (by assumption) rfl rfl ?_; conv => whnf)
      | (refine LoadV.mem (i := 1) (by assumption) rfl rfl ?_; conv => whnf)
      | (refine LoadV.mem (i := 2) (by assumption) rfl rfl ?_; conv => whnf)
      | ((with_reducible refine Tst.beqT ?_))
      | ((with_reducible refine Tst.beqF ?_))
      | (refine Tst.yes rfl ?_; conv => whnf)
      | (refine Tst.no rfl ?_; conv => whnf)))
  exact ⟨⟨i, rfl, hi⟩, he⟩

/-- the error of a reference -/
def refE (s : ByteArray) : Nat :=
  if 65536 < s.size then 2 else if scal s.data.toList = none then 40 else if s.data.toList.any barB then 50 else 0
theorem reference_any (s : ByteArray) (hs : s.size ≤ 140737488355328) (w : World) :
    Gv Tryz.prog 145 [.string s] w fun v w' => v = .int .i64 (refE s) ∧ Ext w w' := by
  refine gv (by kernel_rfl) Tryz.func145 rfl Tryz.ntmps145 rfl ?_; conv => whnf
  (repeat' (first
      | (refine Obl.mk ⟨by omega, by omega⟩ ?_; conv => whnf)
      | (refine Obl.mk ⟨by omega, by omega, ⟨by omega, by omega⟩⟩ ?_; conv => whnf)
      | ((with_reducible refine Tst.tt ?_); conv => whnf)
      | ((with_reducible refine Tst.ff ?_); conv => whnf)
      | ((with_reducible refine Tst.dec (fun _ => ?_) (fun _ => ?_)) <;> first | (exfalso; omega) | (conv => whnf))
      | ((with_reducible refine Tst.not ?_))
      | (refine Wit.conv ⟨by omega, by omega⟩ ?_; conv => whnf)
      | ((with_reducible refine IdxV.nat (by omega) ?_); conv => whnf)
      | ((with_reducible refine SameW.mk rfl ?_); conv => whnf)
      | (refine LoadV.mem (i := 0) (by assumption) rfl rfl ?_; conv => whnf)
      | (refine LoadV.mem (i := 1) (by assumption) rfl rfl ?_; conv => whnf)
      | (refine LoadV.mem (i := 2) (by assumption) rfl rfl ?_; conv => whnf)
      | ((with_reducible refine Tst.beqT ?_))
      | ((with_reducible refine Tst.beqF ?_))
      | (refine Tst.yes rfl ?_; conv => whnf)
      | (refine Tst.no rfl ?_; conv => whnf)))
  · exact ⟨by rw [refE, if_pos (by omega)]; rfl, Ext.refl _⟩
  · refine CallV.of (check_any s hs _) ?_
    rintro v w' ⟨⟨i, rfl, h1, h2, h3⟩, rfl⟩
    (conv => whnf)
    (repeat' (first
      | (refine Obl.mk ⟨by omega, by omega⟩ ?_; conv => whnf)
      | (refine Obl.mk ⟨by omega, by omega, ⟨by omega, by omega⟩⟩ ?_; conv => whnf)
      | ((with_reducible refine Tst.tt ?_); conv => whnf)
      | ((with_reducible refine Tst.ff ?_); conv => whnf)
      | ((with_reducible refine Tst.dec (fun _ => ?_) (fun _ => ?_)) <;> first | (exfalso; omega) | (conv => whnf))
      | ((with_reducible refine Tst.not ?_))
      | (refine Wit.conv ⟨by omega, by omega⟩ ?_; conv => whnf)
      | ((with_reducible refine IdxV.nat (by omega) ?_); conv => whnf)
      | ((with_reducible refine SameW.mk rfl ?_); conv => whnf)
      | (refine LoadV.mem (i := 0) (by assumption) rfl rfl ?_; conv => whnf)
      | (refine LoadV.mem (i := 1) (by assumption) rfl rfl ?_; conv => whnf)
      | (refine LoadV.mem (i := 2) (by assumption) rfl rfl ?_; conv => whnf)
      | ((with_reducible refine Tst.beqT ?_))
      | ((with_reducible refine Tst.beqF ?_))
      | (refine Tst.yes rfl ?_; conv => whnf)
      | (refine Tst.no rfl ?_; conv => whnf)))
    · refine ⟨?_, Ext.refl _⟩
      rw [refE, if_neg (by omega), if_pos (by
        by_cases h : scal s.data.toList = none
        · exact h
        · have := h2 h; omega)]
      rfl
    · have hsc : scal s.data.toList ≠ none := fun h => by have := h3 h; omega
      refine CallV.of (indexFunc_any s hs _) ?_
      rintro v w1 ⟨⟨j, rfl, hj⟩, he⟩
      (conv => whnf)
      (repeat' (first
      | (refine Obl.mk ⟨by omega, by omega⟩ ?_; conv => whnf)
      | (refine Obl.mk ⟨by omega, by omega, ⟨by omega, by omega⟩⟩ ?_; conv => whnf)
      | ((with_reducible refine Tst.tt ?_); conv => whnf)
      | ((with_reducible refine Tst.ff ?_); conv => whnf)
      | ((with_reducible refine Tst.dec (fun _ => ?_) (fun _ => ?_)) <;> first | (exfalso; omega) | (conv => whnf))
      | ((with_reducible refine Tst.not ?_))
      | (refine Wit.conv ⟨by omega, by omega⟩ ?_; conv => whnf)
      | ((with_reducible refine IdxV.nat (by omega) ?_); conv => whnf)
      | ((with_reducible refine SameW.mk rfl ?_); conv => whnf)
      | (refine LoadV.mem (i := 0) (by assumption) rfl rfl ?_; conv => whnf)
      | (refine LoadV.mem (i := 1) (by assumption) rfl rfl ?_; conv => whnf)
      | (refine LoadV.mem (i := 2) (by assumption) rfl rfl ?_; conv => whnf)
      | ((with_reducible refine Tst.beqT ?_))
      | ((with_reducible refine Tst.beqF ?_))
      | (refine Tst.yes rfl ?_; conv => whnf)
      | (refine Tst.no rfl ?_; conv => whnf)))
      · refine ⟨?_, he⟩
        rw [refE, if_neg (by omega), if_neg hsc, if_pos (hj.1 (by omega))]; rfl
      · refine ⟨?_, he⟩
        rw [refE, if_neg (by omega), if_neg hsc, if_neg (fun h => by have := hj.2 h; omega)]; rfl

def letterB (c : UInt8) : Bool := decide (97 ≤ c.toNat ∧ c.toNat ≤ 122 ∨ 65 ≤ c.toNat ∧ c.toNat ≤ 90)
def schemeB (c : UInt8) : Bool := letterB c || decide (48 ≤ c.toNat ∧ c.toNat ≤ 57 ∨ c.toNat = 43 ∨ c.toNat = 45 ∨ c.toNat = 46)
/-- how many bytes are the scheme; 0: there is none. 'k' stand ahead. -/
def schemeN : List UInt8 → Nat → Nat
  | [], _ => 0
  | c :: l, k => if c.toNat = 58 then k else if k = 0 ∧ letterB c = false ∨ schemeB c = false then 0 else schemeN l (k + 1)

theorem schemeN_go (c : UInt8) (l : List UInt8) (k : Nat) (h1 : c.toNat ≠ 58)
    (h2 : 97 ≤ c.toNat ∧ c.toNat ≤ 122 ∨ 65 ≤ c.toNat ∧ c.toNat ≤ 90 ∨ (0 < k ∧ (48 ≤ c.toNat ∧ c.toNat ≤ 57 ∨ c.toNat = 43 ∨ c.toNat = 45 ∨ c.toNat = 46))) :
    schemeN (c :: l) k = schemeN l (k + 1) := by
  rw [schemeN, if_neg h1, if_neg]
  simp only [schemeB, letterB, Bool.or_eq_false_iff, decide_eq_false_iff_not]
  omega
theorem schemeN_stop (c : UInt8) (l : List UInt8) (k : Nat) (h1 : c.toNat ≠ 58 ∨ k = 0)
    (h2 : ¬ (97 ≤ c.toNat ∧ c.toNat ≤ 122 ∨ 65 ≤ c.toNat ∧ c.toNat ≤ 90 ∨ (0 < k ∧ (48 ≤ c.toNat ∧ c.toNat ≤ 57 ∨ c.toNat = 43 ∨ c.toNat = 45 ∨ c.toNat = 46)))) :
    schemeN (c :: l) k = 0 := by
  rw [schemeN]
  split
  · omega
  · rw [if_pos]
    simp only [schemeB, letterB, Bool.or_eq_false_iff, decide_eq_false_iff_not]
    omega
theorem schemeN_end (c : UInt8) (l : List UInt8) (k : Nat) (h1 : c.toNat = 58) : schemeN (c :: l) k = k := by
  rw [schemeN, if_pos h1]
theorem extract_zero (s : ByteArray) : s.extract 0 0 = ⟨#[]⟩ := by
  obtain ⟨⟨l⟩⟩ := s
  rw [ByteArray.extract_mk]; simp
theorem scheme_any (s : ByteArray) (hs : s.size ≤ 140737488355328) (w : World) :
    Gv Tryz.prog 146 [.string s] w fun v w' => v = .string (s.extract 0 (schemeN s.data.toList 0)) ∧ Ext w w' := by
  refine gv (by kernel_rfl) Tryz.func146 rfl Tryz.ntmps146 rfl ?_; conv => whnf
  refine NewV.mem (Mem.nil w) ?_
  intro b w1 hm
  (conv => whnf)
  refine loopV (fun pos : Nat => [(0, .string s), (7, .pointer (some ⟨b, 0, none⟩))])
    (fun pos w2 => pos ≤ s.size ∧ Mem w w2 [(b, .stringIter s pos)] ∧ schemeN s.data.toList 0 = schemeN (s.data.toList.drop pos) pos) (fun pos => s.size - pos) 0 ⟨rfl, rfl, trivial⟩ ⟨by omega, hm, rfl⟩ ?_
  rintro pos w2 ρ' ⟨hp, hm, ha⟩
  (conv => whnf)
  refine NextS.mem hm (i := 0) rfl ?_ ?_
  · intro hlt w3 hm3
    have hget := drop_get s pos hlt
    rw [hget] at ha
    by_cases hb : (gb s pos).toNat < 128
    · have hd := decode_low s pos hb
      rw [hd] at hm3 ⊢
      simp only at hm3 ⊢
      (conv => whnf)
      (repeat' (first
      | (refine Obl.mk ⟨by omega, by omega⟩ ?_; conv => whnf)
      | (refine Obl.mk ⟨by omega, by omega, ⟨by omega, by omega⟩⟩ ?_; conv => whnf)
      | ((with_reducible refine Tst.tt ?_); conv => whnf)
      | ((with_reducible refine Tst.ff ?_); conv => whnf)
      | ((with_reducible refine Tst.dec (fun _ => ?_) (fun _ => ?_)) <;> first | (exfalso; omega) | (conv => whnf))
      | ((with_reducible refine Tst.not ?_))
      | (refine Wit.conv ⟨by omega, by omega⟩ ?_; conv => whnf)
      | ((with_reducible refine IdxV.nat (by omega) ?_); conv => whnf)
      | ((with_reducible refine SameW.mk rfl ?_); conv => whnf)
      | (refine LoadV.mem (i := 0) (by assumption) rfl rfl ?_; conv => whnf)
      | (refine LoadV.mem (i := 1) (by assumption) rfl rfl ?_; conv => whnf)
      | (refine LoadV.mem (i := 2) (by assumption) rfl rfl ?_; conv => whnf)
      | ((with_reducible refine Tst.beqT ?_))
      | ((with_reducible refine Tst.beqF ?_))
      | (refine Tst.yes rfl ?_; conv => whnf)
      | (refine Tst.no rfl ?_; conv => whnf)))
      all_goals first
        | (refine ⟨pos + 1, ⟨rfl, rfl, trivial⟩, ⟨by omega, hm3, ?_⟩, by omega⟩; rw [ha]; exact schemeN_go _ _ _ (by omega) (by omega))
        | (refine ⟨?_, hm3.ext⟩; rw [ha, schemeN_stop _ _ _ (by omega) (by omega), extract_zero])
        | (refine SliceS.at_ 0 pos rfl rfl (by omega) (by omega) ?_; (conv => whnf); (repeat' (first
      | (refine Obl.mk ⟨by omega, by omega⟩ ?_; conv => whnf)
      | (refine Obl.mk ⟨by omega, by omega, ⟨by omega, by omega⟩⟩ ?_; conv => whnf)
      | ((with_reducible refine Tst.tt ?_); conv => whnf)
      | ((with_reducible refine Tst.ff ?_); conv => whnf)
      | ((with_reducible refine Tst.dec (fun _ => ?_) (fun _ => ?_)) <;> first | (exfalso; omega) | (conv => whnf))
      | ((with_reducible refine Tst.not ?_))
      | (refine Wit.conv ⟨by omega, by omega⟩ ?_; conv => whnf)
      | ((with_reducible refine IdxV.nat (by omega) ?_); conv => whnf)
      | ((with_reducible refine SameW.mk rfl ?_); conv => whnf)
      | (refine LoadV.mem (i := 0) (by assumption) rfl rfl ?_; conv => whnf)
      | (refine LoadV.mem (i := 1) (by assumption) rfl rfl ?_; conv => whnf)
      | (refine LoadV.mem (i := 2) (by assumption) rfl rfl ?_; conv => whnf)
      | ((with_reducible refine Tst.beqT ?_))
      | ((with_reducible refine Tst.beqF ?_))
      | (refine Tst.yes rfl ?_; conv => whnf)
      | (refine Tst.no rfl ?_; conv => whnf))); exact ⟨by rw [ha, schemeN_end _ _ _ (by omega)], hm3.ext⟩)
    · obtain ⟨d1, d2, d3, d4, d5⟩ := decode_hi s pos hlt (by omega)
      generalize (Utf8.decode s pos).1 = r at d1 d2 ⊢
      generalize (Utf8.decode s pos).2 = n at d3 d4 d5 hm3
      (conv => whnf)
      (repeat' (first
      | (refine Obl.mk ⟨by omega, by omega⟩ ?_; conv => whnf)
      | (refine Obl.mk ⟨by omega, by omega, ⟨by omega, by omega⟩⟩ ?_; conv => whnf)
      | ((with_reducible refine Tst.tt ?_); conv => whnf)
      | ((with_reducible refine Tst.ff ?_); conv => whnf)
      | ((with_reducible refine Tst.dec (fun _ => ?_) (fun _ => ?_)) <;> first | (exfalso; omega) | (conv => whnf))
      | ((with_reducible refine Tst.not ?_))
      | (refine Wit.conv ⟨by omega, by omega⟩ ?_; conv => whnf)
      | ((with_reducible refine IdxV.nat (by omega) ?_); conv => whnf)
      | ((with_reducible refine SameW.mk rfl ?_); conv => whnf)
      | (refine LoadV.mem (i := 0) (by assumption) rfl rfl ?_; conv => whnf)
      | (refine LoadV.mem (i := 1) (by assumption) rfl rfl ?_; conv => whnf)
      | (refine LoadV.mem (i := 2) (by assumption) rfl rfl ?_; conv => whnf)
      | ((with_reducible refine Tst.beqT ?_))
      | ((with_reducible refine Tst.beqF ?_))
      | (refine Tst.yes rfl ?_; conv => whnf)
      | (refine Tst.no rfl ?_; conv => whnf)))
      all_goals first
        | (refine ⟨?_, hm3.ext⟩; rw [ha, schemeN_stop _ _ _ (by omega) (by omega), extract_zero])
  · intro hge
    rw [List.drop_eq_nil_of_le (by simp; omega)] at ha
    (conv => whnf)
    (repeat' (first
      | (refine Obl.mk ⟨by omega, by omega⟩ ?_; conv => whnf)
      | (refine Obl.mk ⟨by omega, by omega, ⟨by omega, by omega⟩⟩ ?_; conv => whnf)
      | ((with_reducible refine Tst.tt ?_); conv => whnf)
      | ((with_reducible refine Tst.ff ?_); conv => whnf)
      | ((with_reducible refine Tst.dec (fun _ => ?_) (fun _ => ?_)) <;> first | (exfalso; omega) | (conv => whnf))
      | ((with_reducible refine Tst.not ?_))
      | (refine Wit.conv ⟨by omega, by omega⟩ ?_; conv => whnf)
      | ((with_reducible refine IdxV.nat (by omega) ?_); conv => whnf)
      | ((with_reducible refine SameW.mk rfl ?_); conv => whnf)
      | (refine LoadV.mem (i := 0) (by assumption) rfl rfl ?_; conv => whnf)
      | (refine LoadV.mem (i := 1) (by assumption) rfl rfl ?_; conv => whnf)
      | (refine LoadV.mem (i := 2) (by assumption) rfl rfl ?_; conv => whnf)
      | ((with_reducible refine Tst.beqT ?_))
      | ((with_reducible refine Tst.beqF ?_))
      | (refine Tst.yes rfl ?_; conv => whnf)
      | (refine Tst.no rfl ?_; conv => whnf)))
    exact ⟨by rw [ha, schemeN, extract_zero], hm.ext⟩

/-- the error of an IRI -/
def iriE (s : ByteArray) : Nat := if refE s ≠ 0 then refE s else if schemeN s.data.toList 0 = 0 then 51 else 0
theorem schemeN_le (l : List UInt8) (k : Nat) : schemeN l k ≤ k + l.length := by
  induction l generalizing k with
  | nil => simp [schemeN]
  | cons c l ih =>
    rw [schemeN]
    have := ih (k + 1)
    simp only [List.length_cons]
    split
    · omega
    · split <;> omega
theorem extract_empty (s : ByteArray) (n : Nat) (hn : n ≤ s.size) : s.extract 0 n = ⟨#[]⟩ ↔ n = 0 := by
  constructor
  · intro h
    have := congrArg ByteArray.size h
    rw [ByteArray.size_extract] at this
    have h0 : (ByteArray.mk #[]).size = 0 := rfl
    omega
  · rintro rfl; exact extract_zero s
theorem iriCheck_any (s : ByteArray) (hs : s.size ≤ 140737488355328) (w : World) :
    Gv Tryz.prog 86 [.string s] w fun v w' => v = .int .i64 (iriE s) ∧ Ext w w' := by
  refine gv (by kernel_rfl) Tryz.func86 rfl Tryz.ntmps86 rfl ?_; conv => whnf
  refine CallV.of (reference_any s hs _) ?_
  rintro v w1 ⟨rfl, he⟩
  (conv => whnf)
  (repeat' (first
      | (refine Obl.mk ⟨by omega, by omega⟩ ?_; conv => whnf)
      | (refine Obl.mk ⟨by omega, by omega, ⟨by omega, by omega⟩⟩ ?_; conv => whnf)
      | ((with_reducible refine Tst.tt ?_); conv => whnf)
      | ((with_reducible refine Tst.ff ?_); conv => whnf)
      | ((with_reducible refine Tst.dec (fun _ => ?_) (fun _ => ?_)) <;> first | (exfalso; omega) | (conv => whnf))
      | ((with_reducible refine Tst.not ?_))
      | (refine Wit.conv ⟨by omega, by omega⟩ ?_; conv => whnf)
      | ((with_reducible refine IdxV.nat (by omega) ?_); conv => whnf)
      | ((with_reducible refine SameW.mk rfl ?_); conv => whnf)
      | (refine LoadV.mem (i := 0) (by assumption) rfl rfl ?_; conv => whnf)
      | (refine LoadV.mem (i := 1) (by assumption) rfl rfl ?_; conv => whnf)
      | (refine LoadV.mem (i := 2) (by assumption) rfl rfl ?_; conv => whnf)
      | ((with_reducible refine Tst.beqT ?_))
      | ((with_reducible refine Tst.beqF ?_))
      | (refine Tst.yes rfl ?_; conv => whnf)
      | (refine Tst.no rfl ?_; conv => whnf)))
  · exact ⟨by rw [iriE, if_pos (by omega)], he⟩
  · refine CallV.of (scheme_any s hs _) ?_
    rintro v w2 ⟨rfl, he2⟩
    have hle := schemeN_le s.data.toList 0
    have hle' : schemeN s.data.toList 0 ≤ s.size := by simpa using hle
    (conv => whnf)
    refine Tst.seq (fun h => ?_) (fun h => ?_)
    · (conv => whnf)
      (repeat' (first
      | (refine Obl.mk ⟨by omega, by omega⟩ ?_; conv => whnf)
      | (refine Obl.mk ⟨by omega, by omega, ⟨by omega, by omega⟩⟩ ?_; conv => whnf)
      | ((with_reducible refine Tst.tt ?_); conv => whnf)
      | ((with_reducible refine Tst.ff ?_); conv => whnf)
      | ((with_reducible refine Tst.dec (fun _ => ?_) (fun _ => ?_)) <;> first | (exfalso; omega) | (conv => whnf))
      | ((with_reducible refine Tst.not ?_))
      | (refine Wit.conv ⟨by omega, by omega⟩ ?_; conv => whnf)
      | ((with_reducible refine IdxV.nat (by omega) ?_); conv => whnf)
      | ((with_reducible refine SameW.mk rfl ?_); conv => whnf)
      | (refine LoadV.mem (i := 0) (by assumption) rfl rfl ?_; conv => whnf)
      | (refine LoadV.mem (i := 1) (by assumption) rfl rfl ?_; conv => whnf)
      | (refine LoadV.mem (i := 2) (by assumption) rfl rfl ?_; conv => whnf)
      | ((with_reducible refine Tst.beqT ?_))
      | ((with_reducible refine Tst.beqF ?_))
      | (refine Tst.yes rfl ?_; conv => whnf)
      | (refine Tst.no rfl ?_; conv => whnf)))
      exact ⟨by rw [iriE, if_neg (by omega), if_pos ((extract_empty s _ hle').1 h)]; rfl, he.trans he2⟩
    · (conv => whnf)
      (repeat' (first
      | (refine Obl.mk ⟨by omega, by omega⟩ ?_; conv => whnf)
      | (refine Obl.mk ⟨by omega, by omega, ⟨by omega, by omega⟩⟩ ?_; conv => whnf)
      | ((with_reducible refine Tst.tt ?_); conv => whnf)
      | ((with_reducible refine Tst.ff ?_); conv => whnf)
      | ((with_reducible refine Tst.dec (fun _ => ?_) (fun _ => ?_)) <;> first | (exfalso; omega) | (conv => whnf))
      | ((with_reducible refine Tst.not ?_))
      | (refine Wit.conv ⟨by omega, by omega⟩ ?_; conv => whnf)
      | ((with_reducible refine IdxV.nat (by omega) ?_); conv => whnf)
      | ((with_reducible refine SameW.mk rfl ?_); conv => whnf)
      | (refine LoadV.mem (i := 0) (by assumption) rfl rfl ?_; conv => whnf)
      | (refine LoadV.mem (i := 1) (by assumption) rfl rfl ?_; conv => whnf)
      | (refine LoadV.mem (i := 2) (by assumption) rfl rfl ?_; conv => whnf)
      | ((with_reducible refine Tst.beqT ?_))
      | ((with_reducible refine Tst.beqF ?_))
      | (refine Tst.yes rfl ?_; conv => whnf)
      | (refine Tst.no rfl ?_; conv => whnf)))
      exact ⟨by rw [iriE, if_neg (by omega), if_neg (fun e => h ((extract_empty s _ hle').2 e))]; rfl, he.trans he2⟩
end Go.Proofs.YtajgbepghniciaaGreatDoor
namespace Go.Proofs.YtajgbepghniciaaGreatDoor
open Go.RowKit V
set_option maxRecDepth 100000

def es : ByteArray := ⟨#[]⟩
structure PN where
  op : Int
  iri : ByteArray
  a : Int
  b : Int
  fA : Option Addr
  fc : Nat
  f : List ByteArray
  vA : Option Addr
  vc : Nat
  v : List ByteArray
end Go.Proofs.YtajgbepghniciaaGreatDoor
namespace Go.Proofs.YtajgbepghniciaaGreatDoor
open Go.ChangeShapes Go.WideShapes Go.RowKit V
set_option maxRecDepth 100000

theorem inR_of {k : IntKind} {n : Int} (h : (Lit.int k n).wf = true) : InR k n := by
  simp only [Lit.wf, Bool.and_eq_true, decide_eq_true_eq] at h
  cases k <;> exact h
theorem cellsStr : Tryz.prog.cellsOf 9 = 1 := by kernel_rfl
theorem cellsInt : Tryz.prog.cellsOf 3 = 1 := by kernel_rfl
theorem cellsStrs : Tryz.prog.cellsOf 37 = 1 := by kernel_rfl
section
variable {H : Type} {enc : TypeId × Value → H} {W : World}
instance : Inhabited PN := ⟨⟨0, ⟨#[]⟩, 0, 0, none, 0, [], none, 0, []⟩⟩
end
end Go.Proofs.YtajgbepghniciaaGreatDoor
namespace Go.Proofs.YtajgbepghniciaaGreatDoor
open Go.ChangeShapes Go.WideShapes Go.RowKit
namespace V
section
variable {H : Type} {enc : TypeId × Value → H} {P : Program}
structure OpB (enc : TypeId × Value → H) (P : Program) (w : World) (t : TypeId) (cs : List Value) : Prop where
  h : ∃ n d ps, DataW.trod enc P w 0 (fun _ => true) true n t cs = some (d, ps) ∧ Rows.uptoBulk d ≤ 1048576
theorem bulk_one (d : DataW H) : 1 ≤ Rows.uptoBulk d := by
  cases d with
  | lit l => cases l <;> simp [Rows.uptoBulk]
  | nil => simp [Rows.uptoBulk]
  | ptr d => simp [Rows.uptoBulk]
  | slice elems spare => simp [Rows.uptoBulk]
  | agg parts => simp [Rows.uptoBulk]
  | iface t d => simp [Rows.uptoBulk]
  | map entries => simp [Rows.uptoBulk]
  | held h => simp [Rows.uptoBulk]
theorem bulk_mem {d : DataW H} {l : List (DataW H)} (h : d ∈ l) : Rows.uptoBulk d ≤ Rows.uptoBulkAll l := by
  induction l with
  | nil => cases h
  | cons x r ih =>
    simp only [Rows.uptoBulkAll]
    rcases List.mem_cons.1 h with e | e
    · subst e; omega
    · have := ih e; omega
theorem bulk_len (l : List (DataW H)) : l.length ≤ Rows.uptoBulkAll l := by
  induction l with
  | nil => simp [Rows.uptoBulkAll]
  | cons x r ih => have := bulk_one x; simp only [Rows.uptoBulkAll, List.length_cons]; omega
section
variable {w : World} {t : TypeId}
theorem OpB.of {ts : List TypeId} {vs : List Value} {ds : List (DataW H)} {ps : List MemPlace} (h : DataW.TrodAll enc P w 0 (fun _ => true) true ts vs ds ps) (hw : Rows.uptoBulkAll ds ≤ 1048576) :
    ∀ (i : Nat) u v, ts[i]? = some u → vs[i]? = some v → OpB enc P w u v.cells.toList := by
  have key : ∀ (ts : List TypeId) (vs : List Value) (ds : List (DataW H)) (ps : List MemPlace), DataW.TrodAll enc P w 0 (fun _ => true) true ts vs ds ps → (∀ d ∈ ds, Rows.uptoBulk d ≤ 1048576) →
      ∀ (i : Nat) u v, ts[i]? = some u → vs[i]? = some v → OpB enc P w u v.cells.toList := by
    intro ts
    induction ts with
    | nil => intro vs ds ps _ _ i u v hu; simp at hu
    | cons t ts ih =>
      intro vs ds ps h hw i u v hu hv
      obtain ⟨x, vs', d, ds', p, q, rfl, rfl, rfl, ⟨n, ha⟩, hb⟩ := trodAll_cons h
      cases i with
      | zero =>
        simp at hu hv
        subst hu hv
        exact ⟨n, d, p, ha, hw d (List.mem_cons_self ..)⟩
      | succ i => exact ih vs' ds' q hb (fun m hm => hw m (List.mem_cons_of_mem _ hm)) i u v (by simpa using hu) (by simpa using hv)
  exact key ts vs ds ps h (fun d hd => Nat.le_trans (bulk_mem hd) hw)
theorem OpB.fields {fs : Array Field} {cs : List Value} (ht : P.underlying t = some (.struct fs)) (h : OpB enc P w t cs) :
    cs.length = P.cellsOf t ∧ ∀ (i : Nat) (f : Field), fs[i]? = some f → OpB enc P w f.type ((cs.drop f.offset).take (P.cellsOf f.type)) := by
  obtain ⟨n, d, ps, h, hw⟩ := h
  obtain ⟨xs, n, _, hd, hl, hlen, hf⟩ := DataW.trod_struct ht h
  simp only [Prod.mk.injEq] at hd
  obtain ⟨rfl, rfl⟩ := hd
  refine ⟨hl, fun i f hi => ?_⟩
  have hil : i < xs.length := by
    rw [hlen]
    exact (Array.getElem?_eq_some_iff.1 hi).1
  refine ⟨n, xs[i].1, xs[i].2, by rw [hf i f hi, List.getElem?_eq_getElem hil], ?_⟩
  rw [Rows.uptoBulk] at hw
  have := bulk_mem (d := xs[i].1) (l := xs.map (·.1)) (List.mem_map.2 ⟨xs[i], List.getElem_mem hil, rfl⟩)
  omega
theorem OpB.string {c : Value} (ht : P.underlying t = some .string) (h : OpB enc P w t [c]) : ∃ s : ByteArray, c = .string s ∧ s.size ≤ 1048576 := by
  obtain ⟨n, d, ps, h, hw⟩ := h
  obtain ⟨s, h1, h2, _⟩ := DataW.trod_string ht h
  simp only [Prod.mk.injEq] at h2
  obtain ⟨rfl, rfl⟩ := h2
  refine ⟨s, by simpa using h1, ?_⟩
  rw [Rows.uptoBulk] at hw
  have e : s.data.toList.length = s.size := Array.length_toList
  omega
theorem OpB.int {k : IntKind} {c : Value} (ht : P.underlying t = some (.int k)) (h : OpB enc P w t [c]) : ∃ n : Int, c = .int k n ∧ InR k n := by
  obtain ⟨n, d, ps, h, hw⟩ := h
  obtain ⟨s, h1, _, h2⟩ := DataW.trod_int ht h
  exact ⟨s, by simpa using h1, inR_of h2⟩
theorem OpB.bool {c : Value} (ht : P.underlying t = some .bool) (h : OpB enc P w t [c]) : ∃ b : Bool, c = .bool b := by
  obtain ⟨n, d, ps, h, hw⟩ := h
  obtain ⟨s, h1, _⟩ := DataW.trod_bool ht h
  exact ⟨s, by simpa using h1⟩
theorem OpB.slice {α : Type} [Inhabited α] {en : α → List Value} {R : α → Prop} {size e : Nat} {c : Value} (ht : P.underlying t = some (.slice e)) (hc : P.cellsOf e = size) (hs0 : 0 < size)
    (hen : ∀ x, (en x).length = size) (each : ∀ cs, OpB enc P w e cs → ∃ x, cs = en x ∧ R x) (h : OpB enc P w t [c]) :
    ∃ (A : Option Addr) (cap : Nat) (l : List α), c = .slice A l.length cap ∧ l.length ≤ cap ∧ l.length ≤ 1048576 ∧ (∀ x ∈ l, R x) ∧ SlAt en size w A l := by
  obtain ⟨n, d, ps, h, hw⟩ := h
  rcases Deep.open_slice ht h with ⟨h1, _⟩ | ⟨a, len, cap, m, n, D, Pl, h1, _, hlc, hcm, hm, hd, hx⟩
  · refine ⟨none, 0, [], by simpa using h1, by simp, by simp, by simp, ⟨fun h => absurd rfl h⟩⟩
  · simp only [if_true] at hm
    simp only [Prod.mk.injEq] at hd
    obtain ⟨rfl, _⟩ := hd
    rw [Rows.uptoBulk] at hw
    have hlen := bulk_len ((List.range len).map D)
    rw [List.length_map, List.length_range] at hlen
    obtain ⟨X, hX⟩ := Deep.choose_lt (n := len) (p := fun i (x : α) => w.cells? 0 (a.add (i * P.cellsOf e)) (P.cellsOf e) = some (en x) ∧ R x) (fun i hi => by
      obtain ⟨cs, h2, h3⟩ := hx i (by omega)
      obtain ⟨x, rfl, hr⟩ := each cs ⟨n, D i, Pl i, h3, by
        have := bulk_mem (d := D i) (l := (List.range len).map D) (List.mem_map.2 ⟨i, List.mem_range.2 hi, rfl⟩)
        omega⟩
      exact ⟨x, h2, hr⟩)
    refine ⟨some a, cap, (List.range len).map X, by simpa using h1, by simp; omega, by simp; omega, fun s hs => ?_, ⟨fun hn => ?_⟩⟩
    · obtain ⟨i, hi, rfl⟩ := List.mem_map.1 hs
      exact (hX i (List.mem_range.1 hi)).2
    · have hpos : 0 < len := by
        rcases Nat.eq_zero_or_pos len with h0 | h0
        · exact absurd (by rw [h0]; rfl) hn
        · exact h0
      have hs : a = ⟨a.block, a.off, none⟩ := by
        obtain ⟨_, _, h2⟩ := World.cells?_some (hX 0 hpos).1
        have h3 := h2 0 (by omega)
        rw [List.getElem?_eq_getElem (by rw [hen]; omega)] at h3
        refine spot_none (w := w) (v := (en (X 0))[0]'(by rw [hen]; omega)) ?_
        simpa [Addr.add] using h3
      refine ⟨a.block, a.off, by rw [← hs], fun j s hj k v hv => ?_⟩
      have hjl : j < len := by
        have := (List.getElem?_eq_some_iff.1 hj).1
        simpa using this
      rw [List.getElem?_map, List.getElem?_range hjl] at hj
      simp only [Option.map_some, Option.some.injEq] at hj
      subst hj
      obtain ⟨_, _, h2⟩ := World.cells?_some (hX j hjl).1
      have hk : k < size := by rw [← hen (X j)]; exact (List.getElem?_eq_some_iff.1 hv).1
      have h3 := h2 k (by omega)
      rw [hv, hs, add_plain, add_plain, hc] at h3
      exact h3
end
end
end V
end Go.Proofs.YtajgbepghniciaaGreatDoor
namespace Go.Proofs.YtajgbepghniciaaGreatDoor
open Go.RowKit V
set_option maxRecDepth 100000

def basesP : List (Int × Int) := [(192, 214), (216, 246), (248, 767), (880, 893), (895, 8191), (8204, 8205), (8304, 8591), (11264, 12271), (12289, 55295), (63744, 64975), (65008, 65533), (65536, 983039)]
def basesV : List Value := basesP.flatMap fun x => [.int .i32 x.1, .int .i32 x.2]
def inP (r : Int) (x : Int × Int) : Bool := decide (x.1 ≤ r ∧ r ≤ x.2)
def letN (r : Int) : Bool := decide (97 ≤ r ∧ r ≤ 122 ∨ 65 ≤ r ∧ r ≤ 90)
def digN (r : Int) : Bool := decide (48 ≤ r ∧ r ≤ 57)
def baseB (r : Int) : Bool := letN r || basesP.any (inP r)
def startB (r : Int) : Bool := baseB r || decide (r = 95)
def followB (r : Int) : Bool := startB r || digN r || decide (r = 45 ∨ r = 183 ∨ (768 ≤ r ∧ r ≤ 879) ∨ (8255 ≤ r ∧ r ≤ 8256))
def labB (r : Int) : Bool := startB r || digN r
theorem bases_ge : ∀ x ∈ basesP, 128 ≤ x.1 := by decide
theorem bases_lo : ∀ i (h : i < basesP.length), basesV[i * 2]? = some (.int .i32 basesP[i].1) ∧ basesV[i * 2 + 1]? = some (.int .i32 basesP[i].2) ∧ 128 ≤ basesP[i].1 := by
  intro i h
  refine ⟨?_, ?_, bases_ge _ (List.getElem_mem h)⟩
  all_goals
  have h : i < 12 := h
  obtain rfl | rfl | rfl | rfl | rfl | rfl | rfl | rfl | rfl | rfl | rfl | rfl : i = 0 ∨ i = 1 ∨ i = 2 ∨ i = 3 ∨ i = 4 ∨ i = 5 ∨ i = 6 ∨ i = 7 ∨ i = 8 ∨ i = 9 ∨ i = 10 ∨ i = 11 := by omega
  all_goals rfl

theorem nextE_any (s : ByteArray) (p : Nat) (hp : p ≤ s.size) (hs : s.size ≤ 140737488355328) (w : World) :
    Gv Tryz.prog 204 [.string s, .int .i64 p] w fun v w' => v = .tuple #[.int .i32 (decN (s.data.toList.drop p)).1, .int .i64 (decN (s.data.toList.drop p)).2] ∧ w' = w := by
  by_cases h : p < s.size
  · exact next_any s p h hs w
  · have e : s.data.toList.drop p = [] := List.drop_eq_nil_of_le (by simp; omega)
    rw [e]
    refine gv (by kernel_rfl) Tryz.func204 rfl Tryz.ntmps204 rfl ?_; conv => whnf
    (repeat' (first
      | (refine Obl.mk ⟨by omega, by omega⟩ ?_; conv => whnf)
      | (refine Obl.mk ⟨by omega, by omega, ⟨by omega, by omega⟩⟩ ?_; conv => whnf)
      | ((with_reducible refine Tst.tt ?_); conv => whnf)
      | ((with_reducible refine Tst.ff ?_); conv => whnf)
      | ((with_reducible refine Tst.dec (fun _ => ?_) (fun _ => ?_)) <;> first | (exfalso; omega) | (conv => whnf))
      | ((with_reducible refine Tst.not ?_))
      | (refine Wit.conv ⟨by omega, by omega⟩ ?_; conv => whnf)
      | ((with_reducible refine IdxV.nat (by omega) ?_); conv => whnf)
      | ((with_reducible refine SameW.mk rfl ?_); conv => whnf)
      | (refine LoadV.mem (i := 0) (by assumption) rfl rfl ?_; conv => whnf)
      | (refine LoadV.mem (i := 1) (by assumption) rfl rfl ?_; conv => whnf)
      | (refine LoadV.mem (i := 2) (by assumption) rfl rfl ?_; conv => whnf)
      | ((with_reducible refine Tst.beqT ?_))
      | ((with_reducible refine Tst.beqF ?_))
      | (refine Tst.yes rfl ?_; conv => whnf)
      | (refine Tst.no rfl ?_; conv => whnf)))
    exact ⟨rfl, rfl⟩

theorem letter_any (r : Int) (w : World) : Gv Tryz.prog 301 [.int .i32 r] w fun v w' => v = .bool (letN r) ∧ w' = w := by
  refine gv (by kernel_rfl) Tryz.func301 rfl Tryz.ntmps301 rfl ?_; conv => whnf
  (repeat' (first
      | (refine Obl.mk ⟨by omega, by omega⟩ ?_; conv => whnf)
      | (refine Obl.mk ⟨by omega, by omega, ⟨by omega, by omega⟩⟩ ?_; conv => whnf)
      | ((with_reducible refine Tst.tt ?_); conv => whnf)
      | ((with_reducible refine Tst.ff ?_); conv => whnf)
      | ((with_reducible refine Tst.dec (fun _ => ?_) (fun _ => ?_)) <;> first | (exfalso; omega) | (conv => whnf))
      | ((with_reducible refine Tst.not ?_))
      | (refine Wit.conv ⟨by omega, by omega⟩ ?_; conv => whnf)
      | ((with_reducible refine IdxV.nat (by omega) ?_); conv => whnf)
      | ((with_reducible refine SameW.mk rfl ?_); conv => whnf)
      | (refine LoadV.mem (i := 0) (by assumption) rfl rfl ?_; conv => whnf)
      | (refine LoadV.mem (i := 1) (by assumption) rfl rfl ?_; conv => whnf)
      | (refine LoadV.mem (i := 2) (by assumption) rfl rfl ?_; conv => whnf)
      | ((with_reducible refine Tst.beqT ?_))
      | ((with_reducible refine Tst.beqF ?_))
      | (refine Tst.yes rfl ?_; conv => whnf)
      | (refine Tst.no rfl ?_; conv => whnf)))
  all_goals (refine ⟨congrArg Value.bool ?_, rfl⟩; rw [Bool.eq_iff_iff]; simp [letN]; try omega)
theorem digit_any (r : Int) (w : World) : Gv Tryz.prog 207 [.int .i32 r] w fun v w' => v = .bool (digN r) ∧ w' = w := by
  refine gv (by kernel_rfl) Tryz.func207 rfl Tryz.ntmps207 rfl ?_; conv => whnf
  (repeat' (first
      | (refine Obl.mk ⟨by omega, by omega⟩ ?_; conv => whnf)
      | (refine Obl.mk ⟨by omega, by omega, ⟨by omega, by omega⟩⟩ ?_; conv => whnf)
      | ((with_reducible refine Tst.tt ?_); conv => whnf)
      | ((with_reducible refine Tst.ff ?_); conv => whnf)
      | ((with_reducible refine Tst.dec (fun _ => ?_) (fun _ => ?_)) <;> first | (exfalso; omega) | (conv => whnf))
      | ((with_reducible refine Tst.not ?_))
      | (refine Wit.conv ⟨by omega, by omega⟩ ?_; conv => whnf)
      | ((with_reducible refine IdxV.nat (by omega) ?_); conv => whnf)
      | ((with_reducible refine SameW.mk rfl ?_); conv => whnf)
      | (refine LoadV.mem (i := 0) (by assumption) rfl rfl ?_; conv => whnf)
      | (refine LoadV.mem (i := 1) (by assumption) rfl rfl ?_; conv => whnf)
      | (refine LoadV.mem (i := 2) (by assumption) rfl rfl ?_; conv => whnf)
      | ((with_reducible refine Tst.beqT ?_))
      | ((with_reducible refine Tst.beqF ?_))
      | (refine Tst.yes rfl ?_; conv => whnf)
      | (refine Tst.no rfl ?_; conv => whnf)))
  all_goals (refine ⟨congrArg Value.bool ?_, rfl⟩; rw [Bool.eq_iff_iff]; simp [digN]; try omega)
theorem cellAt1 {w : World} {g k : Nat} {v : Value} (h : w.cell? ⟨g, 0 + k, none⟩ = some v) : w.cell? ⟨g, 0 + k * 1, none⟩ = some v := by rwa [Nat.mul_one]
theorem cellAt1' {w : World} {g k : Nat} {v : Value} (h : w.cell? ⟨g, 0 + (k + 1), none⟩ = some v) : w.cell? ⟨g, 0 + (k + 1) * 1, none⟩ = some v := by rwa [Nat.mul_one]
theorem base_any (r : Int) (w : World) (hT : CellsAt w 3 0 basesV) : Gv Tryz.prog 253 [.int .i32 r] w fun v w' => v = .bool (baseB r) ∧ w' = w := by
  have hlow : r < 128 → baseB r = letN r := fun h => by
    have : basesP.any (inP r) = false := by
      rw [List.any_eq_false]
      intro x hx
      obtain ⟨i, hi, rfl⟩ := List.mem_iff_getElem.1 hx
      have := (bases_lo i hi).2.2
      simp [inP]; omega
    simp [baseB, this]
  have hhi : 128 ≤ r → baseB r = basesP.any (inP r) := fun h => by
    have : letN r = false := by simp [letN]; omega
    simp [baseB, this]
  refine gv (by kernel_rfl) Tryz.func253 rfl Tryz.ntmps253 rfl ?_; conv => whnf
  (repeat' (first
      | (refine Obl.mk ⟨by omega, by omega⟩ ?_; conv => whnf)
      | (refine Obl.mk ⟨by omega, by omega, ⟨by omega, by omega⟩⟩ ?_; conv => whnf)
      | ((with_reducible refine Tst.tt ?_); conv => whnf)
      | ((with_reducible refine Tst.ff ?_); conv => whnf)
      | ((with_reducible refine Tst.dec (fun _ => ?_) (fun _ => ?_)) <;> first | (exfalso; omega) | (conv => whnf))
      | ((with_reducible refine Tst.not ?_))
      | (refine Wit.conv ⟨by omega, by omega⟩ ?_; conv => whnf)
      | ((with_reducible refine IdxV.nat (by omega) ?_); conv => whnf)
      | ((with_reducible refine SameW.mk rfl ?_); conv => whnf)
      | (refine LoadV.mem (i := 0) (by assumption) rfl rfl ?_; conv => whnf)
      | (refine LoadV.mem (i := 1) (by assumption) rfl rfl ?_; conv => whnf)
      | (refine LoadV.mem (i := 2) (by assumption) rfl rfl ?_; conv => whnf)
      | ((with_reducible refine Tst.beqT ?_))
      | ((with_reducible refine Tst.beqF ?_))
      | (refine Tst.yes rfl ?_; conv => whnf)
      | (refine Tst.no rfl ?_; conv => whnf)))
  · refine CallV.of (letter_any r w) ?_
    rintro v w1 ⟨rfl, rfl⟩
    (conv => whnf)
    exact ⟨by rw [hlow (by omega)], rfl⟩
  · refine loopV (fun i : Nat => [(0, .int .i32 r), (3, .int .i64 (i * 2 : Nat))]) (fun i w1 => i ≤ 12 ∧ (basesP.take i).any (inP r) = false ∧ w1 = w) (fun i => 12 - i) 0 ⟨rfl, rfl, trivial⟩ ⟨by omega, rfl, rfl⟩ ?_
    rintro i w1 ρ' ⟨h1, h2, rfl⟩
    (conv => whnf)
    (repeat' (first
      | (refine Obl.mk ⟨by omega, by omega⟩ ?_; conv => whnf)
      | (refine Obl.mk ⟨by omega, by omega, ⟨by omega, by omega⟩⟩ ?_; conv => whnf)
      | ((with_reducible refine Tst.tt ?_); conv => whnf)
      | ((with_reducible refine Tst.ff ?_); conv => whnf)
      | ((with_reducible refine Tst.dec (fun _ => ?_) (fun _ => ?_)) <;> first | (exfalso; omega) | (conv => whnf))
      | ((with_reducible refine Tst.not ?_))
      | (refine Wit.conv ⟨by omega, by omega⟩ ?_; conv => whnf)
      | ((with_reducible refine IdxV.nat (by omega) ?_); conv => whnf)
      | ((with_reducible refine SameW.mk rfl ?_); conv => whnf)
      | (refine LoadV.mem (i := 0) (by assumption) rfl rfl ?_; conv => whnf)
      | (refine LoadV.mem (i := 1) (by assumption) rfl rfl ?_; conv => whnf)
      | (refine LoadV.mem (i := 2) (by assumption) rfl rfl ?_; conv => whnf)
      | ((with_reducible refine Tst.beqT ?_))
      | ((with_reducible refine Tst.beqF ?_))
      | (refine Tst.yes rfl ?_; conv => whnf)
      | (refine Tst.no rfl ?_; conv => whnf)))
    · have hi : i < basesP.length := show i < 12 by omega
      obtain ⟨b1, b2, _⟩ := bases_lo i hi
      have hany : ∀ c, inP r basesP[i] = c → (basesP.take (i + 1)).any (inP r) = c := fun c hc => by
        rw [List.take_succ_eq_append_getElem hi, List.any_append, h2, List.any_cons, hc]; simp
      refine LoadV.of (cellAt1 (hT _ _ b1)) ?_
      (conv => whnf)
      (repeat' (first
      | (refine Obl.mk ⟨by omega, by omega⟩ ?_; conv => whnf)
      | (refine Obl.mk ⟨by omega, by omega, ⟨by omega, by omega⟩⟩ ?_; conv => whnf)
      | ((with_reducible refine Tst.tt ?_); conv => whnf)
      | ((with_reducible refine Tst.ff ?_); conv => whnf)
      | ((with_reducible refine Tst.dec (fun _ => ?_) (fun _ => ?_)) <;> first | (exfalso; omega) | (conv => whnf))
      | ((with_reducible refine Tst.not ?_))
      | (refine Wit.conv ⟨by omega, by omega⟩ ?_; conv => whnf)
      | ((with_reducible refine IdxV.nat (by omega) ?_); conv => whnf)
      | ((with_reducible refine SameW.mk rfl ?_); conv => whnf)
      | (refine LoadV.mem (i := 0) (by assumption) rfl rfl ?_; conv => whnf)
      | (refine LoadV.mem (i := 1) (by assumption) rfl rfl ?_; conv => whnf)
      | (refine LoadV.mem (i := 2) (by assumption) rfl rfl ?_; conv => whnf)
      | ((with_reducible refine Tst.beqT ?_))
      | ((with_reducible refine Tst.beqF ?_))
      | (refine Tst.yes rfl ?_; conv => whnf)
      | (refine Tst.no rfl ?_; conv => whnf)))
      · refine ⟨i * 2 + 1, by omega, by omega, ?_⟩
        (conv => whnf)
        (repeat' (first
      | (refine Obl.mk ⟨by omega, by omega⟩ ?_; conv => whnf)
      | (refine Obl.mk ⟨by omega, by omega, ⟨by omega, by omega⟩⟩ ?_; conv => whnf)
      | ((with_reducible refine Tst.tt ?_); conv => whnf)
      | ((with_reducible refine Tst.ff ?_); conv => whnf)
      | ((with_reducible refine Tst.dec (fun _ => ?_) (fun _ => ?_)) <;> first | (exfalso; omega) | (conv => whnf))
      | ((with_reducible refine Tst.not ?_))
      | (refine Wit.conv ⟨by omega, by omega⟩ ?_; conv => whnf)
      | ((with_reducible refine IdxV.nat (by omega) ?_); conv => whnf)
      | ((with_reducible refine SameW.mk rfl ?_); conv => whnf)
      | (refine LoadV.mem (i := 0) (by assumption) rfl rfl ?_; conv => whnf)
      | (refine LoadV.mem (i := 1) (by assumption) rfl rfl ?_; conv => whnf)
      | (refine LoadV.mem (i := 2) (by assumption) rfl rfl ?_; conv => whnf)
      | ((with_reducible refine Tst.beqT ?_))
      | ((with_reducible refine Tst.beqF ?_))
      | (refine Tst.yes rfl ?_; conv => whnf)
      | (refine Tst.no rfl ?_; conv => whnf)))
        refine LoadV.of (cellAt1' (hT _ _ b2)) ?_
        (conv => whnf)
        (repeat' (first
      | (refine Obl.mk ⟨by omega, by omega⟩ ?_; conv => whnf)
      | (refine Obl.mk ⟨by omega, by omega, ⟨by omega, by omega⟩⟩ ?_; conv => whnf)
      | ((with_reducible refine Tst.tt ?_); conv => whnf)
      | ((with_reducible refine Tst.ff ?_); conv => whnf)
      | ((with_reducible refine Tst.dec (fun _ => ?_) (fun _ => ?_)) <;> first | (exfalso; omega) | (conv => whnf))
      | ((with_reducible refine Tst.not ?_))
      | (refine Wit.conv ⟨by omega, by omega⟩ ?_; conv => whnf)
      | ((with_reducible refine IdxV.nat (by omega) ?_); conv => whnf)
      | ((with_reducible refine SameW.mk rfl ?_); conv => whnf)
      | (refine LoadV.mem (i := 0) (by assumption) rfl rfl ?_; conv => whnf)
      | (refine LoadV.mem (i := 1) (by assumption) rfl rfl ?_; conv => whnf)
      | (refine LoadV.mem (i := 2) (by assumption) rfl rfl ?_; conv => whnf)
      | ((with_reducible refine Tst.beqT ?_))
      | ((with_reducible refine Tst.beqF ?_))
      | (refine Tst.yes rfl ?_; conv => whnf)
      | (refine Tst.no rfl ?_; conv => whnf)))
        · refine ⟨congrArg Value.bool ?_, rfl⟩
          rw [hhi (by omega)]
          exact (List.any_eq_true.2 ⟨basesP[i], List.getElem_mem hi, by simp [inP]; omega⟩).symm
        · exact ⟨i + 1, ⟨rfl, congrArg (Value.int .i64) (by omega), trivial⟩, ⟨by omega, hany _ (by simp [inP]; omega), rfl⟩, by omega⟩
      · exact ⟨i + 1, ⟨rfl, congrArg (Value.int .i64) (by omega), trivial⟩, ⟨by omega, hany _ (by simp [inP]; omega), rfl⟩, by omega⟩
    · refine ⟨congrArg Value.bool ?_, rfl⟩
      rw [hhi (by omega), ← h2, List.take_of_length_le (show 12 ≤ i by omega)]
theorem starter_any (r : Int) (w : World) (hT : CellsAt w 3 0 basesV) : Gv Tryz.prog 206 [.int .i32 r] w fun v w' => v = .bool (startB r) ∧ w' = w := by
  refine gv (by kernel_rfl) Tryz.func206 rfl Tryz.ntmps206 rfl ?_; conv => whnf
  refine CallV.of (base_any r w hT) ?_
  rintro v w1 ⟨rfl, rfl⟩
  (conv => whnf)
  unfold startB
  cases baseB r
  · (repeat' (first
      | (refine Obl.mk ⟨by omega, by omega⟩ ?_; conv => whnf)
      | (refine Obl.mk ⟨by omega, by omega, ⟨by omega, by omega⟩⟩ ?_; conv => whnf)
      | ((with_reducible refine Tst.tt ?_); conv => whnf)
      | ((with_reducible refine Tst.ff ?_); conv => whnf)
      | ((with_reducible refine Tst.dec (fun _ => ?_) (fun _ => ?_)) <;> first | (exfalso; omega) | (conv => whnf))
      | ((with_reducible refine Tst.not ?_))
      | (refine Wit.conv ⟨by omega, by omega⟩ ?_; conv => whnf)
      | ((with_reducible refine IdxV.nat (by omega) ?_); conv => whnf)
      | ((with_reducible refine SameW.mk rfl ?_); conv => whnf)
      | (refine LoadV.mem (i := 0) (by assumption) rfl rfl ?_; conv => whnf)
      | (refine LoadV.mem (i := 1) (by assumption) rfl rfl ?_; conv => whnf)
      | (refine LoadV.mem (i := 2) (by assumption) rfl rfl ?_; conv => whnf)
      | ((with_reducible refine Tst.beqT ?_))
      | ((with_reducible refine Tst.beqF ?_))
      | (refine Tst.yes rfl ?_; conv => whnf)
      | (refine Tst.no rfl ?_; conv => whnf)))
    all_goals (refine ⟨congrArg Value.bool ?_, rfl⟩; rw [Bool.eq_iff_iff]; simp; try omega)
  · (repeat' (first
      | (refine Obl.mk ⟨by omega, by omega⟩ ?_; conv => whnf)
      | (refine Obl.mk ⟨by omega, by omega, ⟨by omega, by omega⟩⟩ ?_; conv => whnf)
      | ((with_reducible refine Tst.tt ?_); conv => whnf)
      | ((with_reducible refine Tst.ff ?_); conv => whnf)
      | ((with_reducible refine Tst.dec (fun _ => ?_) (fun _ => ?_)) <;> first | (exfalso; omega) | (conv => whnf))
      | ((with_reducible refine Tst.not ?_))
      | (refine Wit.conv ⟨by omega, by omega⟩ ?_; conv => whnf)
      | ((with_reducible refine IdxV.nat (by omega) ?_); conv => whnf)
      | ((with_reducible refine SameW.mk rfl ?_); conv => whnf)
      | (refine LoadV.mem (i := 0) (by assumption) rfl rfl ?_; conv => whnf)
      | (refine LoadV.mem (i := 1) (by assumption) rfl rfl ?_; conv => whnf)
      | (refine LoadV.mem (i := 2) (by assumption) rfl rfl ?_; conv => whnf)
      | ((with_reducible refine Tst.beqT ?_))
      | ((with_reducible refine Tst.beqF ?_))
      | (refine Tst.yes rfl ?_; conv => whnf)
      | (refine Tst.no rfl ?_; conv => whnf)))
    all_goals (refine ⟨congrArg Value.bool ?_, rfl⟩; rw [Bool.eq_iff_iff]; simp; try omega)
theorem follower_any (r : Int) (w : World) (hT : CellsAt w 3 0 basesV) : Gv Tryz.prog 205 [.int .i32 r] w fun v w' => v = .bool (followB r) ∧ w' = w := by
  refine gv (by kernel_rfl) Tryz.func205 rfl Tryz.ntmps205 rfl ?_; conv => whnf
  refine CallV.of (starter_any r w hT) ?_
  rintro v w1 ⟨rfl, rfl⟩
  (conv => whnf)
  unfold followB
  cases startB r
  · (repeat' (first
      | (refine Obl.mk ⟨by omega, by omega⟩ ?_; conv => whnf)
      | (refine Obl.mk ⟨by omega, by omega, ⟨by omega, by omega⟩⟩ ?_; conv => whnf)
      | ((with_reducible refine Tst.tt ?_); conv => whnf)
      | ((with_reducible refine Tst.ff ?_); conv => whnf)
      | ((with_reducible refine Tst.dec (fun _ => ?_) (fun _ => ?_)) <;> first | (exfalso; omega) | (conv => whnf))
      | ((with_reducible refine Tst.not ?_))
      | (refine Wit.conv ⟨by omega, by omega⟩ ?_; conv => whnf)
      | ((with_reducible refine IdxV.nat (by omega) ?_); conv => whnf)
      | ((with_reducible refine SameW.mk rfl ?_); conv => whnf)
      | (refine LoadV.mem (i := 0) (by assumption) rfl rfl ?_; conv => whnf)
      | (refine LoadV.mem (i := 1) (by assumption) rfl rfl ?_; conv => whnf)
      | (refine LoadV.mem (i := 2) (by assumption) rfl rfl ?_; conv => whnf)
      | ((with_reducible refine Tst.beqT ?_))
      | ((with_reducible refine Tst.beqF ?_))
      | (refine Tst.yes rfl ?_; conv => whnf)
      | (refine Tst.no rfl ?_; conv => whnf)))
    refine CallV.of (digit_any r w1) ?_
    rintro v w1 ⟨rfl, rfl⟩
    (conv => whnf)
    cases digN r
    · (repeat' (first
      | (refine Obl.mk ⟨by omega, by omega⟩ ?_; conv => whnf)
      | (refine Obl.mk ⟨by omega, by omega, ⟨by omega, by omega⟩⟩ ?_; conv => whnf)
      | ((with_reducible refine Tst.tt ?_); conv => whnf)
      | ((with_reducible refine Tst.ff ?_); conv => whnf)
      | ((with_reducible refine Tst.dec (fun _ => ?_) (fun _ => ?_)) <;> first | (exfalso; omega) | (conv => whnf))
      | ((with_reducible refine Tst.not ?_))
      | (refine Wit.conv ⟨by omega, by omega⟩ ?_; conv => whnf)
      | ((with_reducible refine IdxV.nat (by omega) ?_); conv => whnf)
      | ((with_reducible refine SameW.mk rfl ?_); conv => whnf)
      | (refine LoadV.mem (i := 0) (by assumption) rfl rfl ?_; conv => whnf)
      | (refine LoadV.mem (i := 1) (by assumption) rfl rfl ?_; conv => whnf)
      | (refine LoadV.mem (i := 2) (by assumption) rfl rfl ?_; conv => whnf)
      | ((with_reducible refine Tst.beqT ?_))
      | ((with_reducible refine Tst.beqF ?_))
      | (refine Tst.yes rfl ?_; conv => whnf)
      | (refine Tst.no rfl ?_; conv => whnf)))
      all_goals (refine ⟨congrArg Value.bool ?_, rfl⟩; rw [Bool.eq_iff_iff]; simp; try omega)
    · (repeat' (first
      | (refine Obl.mk ⟨by omega, by omega⟩ ?_; conv => whnf)
      | (refine Obl.mk ⟨by omega, by omega, ⟨by omega, by omega⟩⟩ ?_; conv => whnf)
      | ((with_reducible refine Tst.tt ?_); conv => whnf)
      | ((with_reducible refine Tst.ff ?_); conv => whnf)
      | ((with_reducible refine Tst.dec (fun _ => ?_) (fun _ => ?_)) <;> first | (exfalso; omega) | (conv => whnf))
      | ((with_reducible refine Tst.not ?_))
      | (refine Wit.conv ⟨by omega, by omega⟩ ?_; conv => whnf)
      | ((with_reducible refine IdxV.nat (by omega) ?_); conv => whnf)
      | ((with_reducible refine SameW.mk rfl ?_); conv => whnf)
      | (refine LoadV.mem (i := 0) (by assumption) rfl rfl ?_; conv => whnf)
      | (refine LoadV.mem (i := 1) (by assumption) rfl rfl ?_; conv => whnf)
      | (refine LoadV.mem (i := 2) (by assumption) rfl rfl ?_; conv => whnf)
      | ((with_reducible refine Tst.beqT ?_))
      | ((with_reducible refine Tst.beqF ?_))
      | (refine Tst.yes rfl ?_; conv => whnf)
      | (refine Tst.no rfl ?_; conv => whnf)))
      all_goals (refine ⟨congrArg Value.bool ?_, rfl⟩; rw [Bool.eq_iff_iff]; simp; try omega)
  · (repeat' (first
      | (refine Obl.mk ⟨by omega, by omega⟩ ?_; conv => whnf)
      | (refine Obl.mk ⟨by omega, by omega, ⟨by omega, by omega⟩⟩ ?_; conv => whnf)
      | ((with_reducible refine Tst.tt ?_); conv => whnf)
      | ((with_reducible refine Tst.ff ?_); conv => whnf)
      | ((with_reducible refine Tst.dec (fun _ => ?_) (fun _ => ?_)) <;> first | (exfalso; omega) | (conv => whnf))
      | ((with_reducible refine Tst.not ?_))
      | (refine Wit.conv ⟨by omega, by omega⟩ ?_; conv => whnf)
      | ((with_reducible refine IdxV.nat (by omega) ?_); conv => whnf)
      | ((with_reducible refine SameW.mk rfl ?_); conv => whnf)
      | (refine LoadV.mem (i := 0) (by assumption) rfl rfl ?_; conv => whnf)
      | (refine LoadV.mem (i := 1) (by assumption) rfl rfl ?_; conv => whnf)
      | (refine LoadV.mem (i := 2) (by assumption) rfl rfl ?_; conv => whnf)
      | ((with_reducible refine Tst.beqT ?_))
      | ((with_reducible refine Tst.beqF ?_))
      | (refine Tst.yes rfl ?_; conv => whnf)
      | (refine Tst.no rfl ?_; conv => whnf)))
    all_goals (refine ⟨congrArg Value.bool ?_, rfl⟩; rw [Bool.eq_iff_iff]; simp; try omega)
theorem labels_any (r : Int) (w : World) (hT : CellsAt w 3 0 basesV) : Gv Tryz.prog 143 [.int .i32 r] w fun v w' => v = .bool (labB r) ∧ w' = w := by
  refine gv (by kernel_rfl) Tryz.func143 rfl Tryz.ntmps143 rfl ?_; conv => whnf
  refine CallV.of (starter_any r w hT) ?_
  rintro v w1 ⟨rfl, rfl⟩
  (conv => whnf)
  unfold labB
  cases startB r
  · (repeat' (first
      | (refine Obl.mk ⟨by omega, by omega⟩ ?_; conv => whnf)
      | (refine Obl.mk ⟨by omega, by omega, ⟨by omega, by omega⟩⟩ ?_; conv => whnf)
      | ((with_reducible refine Tst.tt ?_); conv => whnf)
      | ((with_reducible refine Tst.ff ?_); conv => whnf)
      | ((with_reducible refine Tst.dec (fun _ => ?_) (fun _ => ?_)) <;> first | (exfalso; omega) | (conv => whnf))
      | ((with_reducible refine Tst.not ?_))
      | (refine Wit.conv ⟨by omega, by omega⟩ ?_; conv => whnf)
      | ((with_reducible refine IdxV.nat (by omega) ?_); conv => whnf)
      | ((with_reducible refine SameW.mk rfl ?_); conv => whnf)
      | (refine LoadV.mem (i := 0) (by assumption) rfl rfl ?_; conv => whnf)
      | (refine LoadV.mem (i := 1) (by assumption) rfl rfl ?_; conv => whnf)
      | (refine LoadV.mem (i := 2) (by assumption) rfl rfl ?_; conv => whnf)
      | ((with_reducible refine Tst.beqT ?_))
      | ((with_reducible refine Tst.beqF ?_))
      | (refine Tst.yes rfl ?_; conv => whnf)
      | (refine Tst.no rfl ?_; conv => whnf)))
    refine CallV.of (digit_any r w1) ?_
    rintro v w1 ⟨rfl, rfl⟩
    (conv => whnf)
    cases digN r
    · (repeat' (first
      | (refine Obl.mk ⟨by omega, by omega⟩ ?_; conv => whnf)
      | (refine Obl.mk ⟨by omega, by omega, ⟨by omega, by omega⟩⟩ ?_; conv => whnf)
      | ((with_reducible refine Tst.tt ?_); conv => whnf)
      | ((with_reducible refine Tst.ff ?_); conv => whnf)
      | ((with_reducible refine Tst.dec (fun _ => ?_) (fun _ => ?_)) <;> first | (exfalso; omega) | (conv => whnf))
      | ((with_reducible refine Tst.not ?_))
      | (refine Wit.conv ⟨by omega, by omega⟩ ?_; conv => whnf)
      | ((with_reducible refine IdxV.nat (by omega) ?_); conv => whnf)
      | ((with_reducible refine SameW.mk rfl ?_); conv => whnf)
      | (refine LoadV.mem (i := 0) (by assumption) rfl rfl ?_; conv => whnf)
      | (refine LoadV.mem (i := 1) (by assumption) rfl rfl ?_; conv => whnf)
      | (refine LoadV.mem (i := 2) (by assumption) rfl rfl ?_; conv => whnf)
      | ((with_reducible refine Tst.beqT ?_))
      | ((with_reducible refine Tst.beqF ?_))
      | (refine Tst.yes rfl ?_; conv => whnf)
      | (refine Tst.no rfl ?_; conv => whnf)))
      all_goals (refine ⟨congrArg Value.bool ?_, rfl⟩; rw [Bool.eq_iff_iff]; simp; try omega)
    · (repeat' (first
      | (refine Obl.mk ⟨by omega, by omega⟩ ?_; conv => whnf)
      | (refine Obl.mk ⟨by omega, by omega, ⟨by omega, by omega⟩⟩ ?_; conv => whnf)
      | ((with_reducible refine Tst.tt ?_); conv => whnf)
      | ((with_reducible refine Tst.ff ?_); conv => whnf)
      | ((with_reducible refine Tst.dec (fun _ => ?_) (fun _ => ?_)) <;> first | (exfalso; omega) | (conv => whnf))
      | ((with_reducible refine Tst.not ?_))
      | (refine Wit.conv ⟨by omega, by omega⟩ ?_; conv => whnf)
      | ((with_reducible refine IdxV.nat (by omega) ?_); conv => whnf)
      | ((with_reducible refine SameW.mk rfl ?_); conv => whnf)
      | (refine LoadV.mem (i := 0) (by assumption) rfl rfl ?_; conv => whnf)
      | (refine LoadV.mem (i := 1) (by assumption) rfl rfl ?_; conv => whnf)
      | (refine LoadV.mem (i := 2) (by assumption) rfl rfl ?_; conv => whnf)
      | ((with_reducible refine Tst.beqT ?_))
      | ((with_reducible refine Tst.beqF ?_))
      | (refine Tst.yes rfl ?_; conv => whnf)
      | (refine Tst.no rfl ?_; conv => whnf)))
      all_goals (refine ⟨congrArg Value.bool ?_, rfl⟩; rw [Bool.eq_iff_iff]; simp; try omega)
  · (repeat' (first
      | (refine Obl.mk ⟨by omega, by omega⟩ ?_; conv => whnf)
      | (refine Obl.mk ⟨by omega, by omega, ⟨by omega, by omega⟩⟩ ?_; conv => whnf)
      | ((with_reducible refine Tst.tt ?_); conv => whnf)
      | ((with_reducible refine Tst.ff ?_); conv => whnf)
      | ((with_reducible refine Tst.dec (fun _ => ?_) (fun _ => ?_)) <;> first | (exfalso; omega) | (conv => whnf))
      | ((with_reducible refine Tst.not ?_))
      | (refine Wit.conv ⟨by omega, by omega⟩ ?_; conv => whnf)
      | ((with_reducible refine IdxV.nat (by omega) ?_); conv => whnf)
      | ((with_reducible refine SameW.mk rfl ?_); conv => whnf)
      | (refine LoadV.mem (i := 0) (by assumption) rfl rfl ?_; conv => whnf)
      | (refine LoadV.mem (i := 1) (by assumption) rfl rfl ?_; conv => whnf)
      | (refine LoadV.mem (i := 2) (by assumption) rfl rfl ?_; conv => whnf)
      | ((with_reducible refine Tst.beqT ?_))
      | ((with_reducible refine Tst.beqF ?_))
      | (refine Tst.yes rfl ?_; conv => whnf)
      | (refine Tst.no rfl ?_; conv => whnf)))
    all_goals (refine ⟨congrArg Value.bool ?_, rfl⟩; rw [Bool.eq_iff_iff]; simp; try omega)
end Go.Proofs.YtajgbepghniciaaGreatDoor
