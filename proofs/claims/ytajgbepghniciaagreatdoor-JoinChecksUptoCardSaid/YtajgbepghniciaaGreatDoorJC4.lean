/- Lemmas and contracts of functions on the way to the law's card (part 4 of 17). -/
import Derived.Test.YtajgbepghniciaaGreatDoorJC3
import Derived.Lib.Builder
namespace Go.Proofs.YtajgbepghniciaaGreatDoor
open Go.RowKit V
set_option maxRecDepth 100000

/-- behind a label's first scalar; dot: the one ahead is a dot -/
def okT : Bool → List Nat → Bool
  | d, [] => !d
  | _, r :: l => (followB r || decide (r = 46)) && okT (decide (r = 46)) l
def labL : List Nat → Bool
  | [] => false
  | r :: l => labB r && okT false l
noncomputable def labelB (s : ByteArray) : Bool := match scal s.data.toList with
  | some l => labL l
  | none => false
theorem scal_end {l : List UInt8} (h : (decN l).2 = 0) : scal l = none ∨ l = [] := by
  cases l with
  | nil => exact .inr rfl
  | cons a t => exact .inl (scal_none (by simp) h)
/-- what is still to come -/
noncomputable def restB (d : Bool) (l : List UInt8) : Bool := match scal l with
  | some l => okT d l
  | none => false
theorem restB_end {d : Bool} {s : ByteArray} {i : Nat} (hi : i ≤ s.size) (h : (decN (s.data.toList.drop i)).2 = 0) : restB d (s.data.toList.drop i) = decide (i = s.size ∧ d = false) := by
  rcases scal_end h with h1 | h1
  · have hne : i ≠ s.size := by
      intro e
      rw [List.drop_eq_nil_of_le (by simp; omega)] at h1
      rw [scal] at h1; cases h1
    rw [restB, h1]
    simp [hne]
  · have e : i = s.size := by
      have := congrArg List.length h1
      rw [drop_len] at this
      simp at this; omega
    rw [restB, h1, scal]
    cases d <;> simp [okT, e]
theorem restB_step {d : Bool} {l : List UInt8} (h : (decN l).2 ≠ 0) : restB d l = ((followB (decN l).1 || decide ((decN l).1 = 46)) && restB (decide ((decN l).1 = 46)) (l.drop (decN l).2)) := by
  have hne : l ≠ [] := by rintro rfl; exact h rfl
  rw [restB, scal_step hne h, restB]
  cases scal (l.drop (decN l).2) with
  | none => simp
  | some t => rfl
theorem labelB_eq (s : ByteArray) : labelB s = if (decN s.data.toList).2 = 0 then false else labB (decN s.data.toList).1 && restB false (s.data.toList.drop (decN s.data.toList).2) := by
  split
  · rename_i h
    rcases scal_end h with h1 | h1
    · rw [labelB, h1]
    · rw [labelB, h1, scal]; rfl
  · rename_i h
    have hne : s.data.toList ≠ [] := by intro e; rw [e] at h; exact h rfl
    rw [labelB, scal_step hne h, restB]
    cases scal (s.data.toList.drop (decN s.data.toList).2) with
    | none => simp
    | some t => rfl

theorem run_any (s : ByteArray) (hs : s.size ≤ 140737488355328) (w : World) (hT : CellsAt w 3 0 basesV) :
    Gv Tryz.prog 142 [.string s, .int .i64 0, .func (.func 143) #[] #[]] w fun v w' => (∃ n : Nat, v = .int .i64 n ∧ labelB s = decide (n ≠ 0 ∧ n = s.size)) ∧ w' = w := by
  refine gv (by kernel_rfl) Tryz.func142 rfl Tryz.ntmps142 rfl ?_; conv => whnf
  refine CallV.of (nextE_any s 0 (Nat.zero_le _) hs w) ?_
  rw [List.drop_zero]
  rintro v w1 ⟨rfl, rfl⟩
  have hle := decN_le s.data.toList
  have hsz : s.data.toList.length = s.size := by simp
  have hL := labelB_eq s
  (conv => whnf)
  (repeat' (first
      | (refine Obl.mk ⟨by omega, by omega⟩ ?_; conv => whnf)
      | (refine Obl.mk ⟨by omega, by omega, ⟨by omega, by omega⟩⟩ ?_; conv => whnf)
      | ((with_reducible refine Tst.tt ?_); conv => whnf)
      | ((with_reducible refine Tst.ff ?_); conv => whnf)
      | ((with_reducible refine Tst.dec (fun _ => ?_) (fun _ => ?_)) <;> first | (exfalso; omega) | (conv => whnf))
      | ((with_reducible refine Tst.not ?_))
      | (refine Wit.conv ⟨by omega, by omega⟩ ?_; conv => whnf)
      | ((with_reducible refine IdxV.nat (by omega) ?_); conv => whnf)
      | ((with_reducible refine SameW.mk rfl ?_); conv => whnf)
      | (refine LoadV.mem (i := 0) (by assumption) rfl rfl ?_; conv => whnf)
      | (refine LoadV.mem (i := 1) (by assumption) rfl rfl ?_; conv => whnf)
      | (refine LoadV.mem (i := 2) (by assumption) rfl rfl ?_; conv => whnf)
      | ((with_reducible refine Tst.beqT ?_))
      | ((with_reducible refine Tst.beqF ?_))
      | (refine Tst.yes rfl ?_; conv => whnf)
      | (refine Tst.no rfl ?_; conv => whnf)))
  · refine ⟨⟨0, rfl, ?_⟩, rfl⟩
    rw [hL, if_pos (by omega)]; rfl
  · rw [if_neg (by omega)] at hL
    refine CallV.of (labels_any _ w1 hT) ?_
    rintro v w1 ⟨rfl, rfl⟩
    cases hb : labB (decN s.data.toList).1
    · rw [hb] at hL
      (conv => whnf)
      (repeat' (first
      | (refine Obl.mk ⟨by omega, by omega⟩ ?_; conv => whnf)
      | (refine Obl.mk ⟨by omega, by omega, ⟨by omega, by omega⟩⟩ ?_; conv => whnf)
      | ((with_reducible refine Tst.tt ?_); conv => whnf)
      | ((with_reducible refine Tst.ff ?_); conv => whnf)
      | ((with_reducible refine Tst.dec (fun _ => ?_) (fun _ => ?_)) <;> first | (exfalso; omega) | (conv => whnf))
      | ((with_reducible refine Tst.not ?_))
      | (refine Wit.conv ⟨by omega, by omega⟩ ?_; conv => whnf)
      | ((with_reducible refine IdxV.nat (by omega) ?_); conv => whnf)
      | ((with_reducible refine SameW.mk rfl ?_); conv => whnf)
      | (refine LoadV.mem (i := 0) (by assumption) rfl rfl ?_; conv => whnf)
      | (refine LoadV.mem (i := 1) (by assumption) rfl rfl ?_; conv => whnf)
      | (refine LoadV.mem (i := 2) (by assumption) rfl rfl ?_; conv => whnf)
      | ((with_reducible refine Tst.beqT ?_))
      | ((with_reducible refine Tst.beqF ?_))
      | (refine Tst.yes rfl ?_; conv => whnf)
      | (refine Tst.no rfl ?_; conv => whnf)))
      refine ⟨⟨0, rfl, ?_⟩, rfl⟩
      rw [hL]; rfl
    · rw [hb] at hL
      (conv => whnf)
      (repeat' (first
      | (refine Obl.mk ⟨by omega, by omega⟩ ?_; conv => whnf)
      | (refine Obl.mk ⟨by omega, by omega, ⟨by omega, by omega⟩⟩ ?_; conv => whnf)
      | ((with_reducible refine Tst.tt ?_); conv => whnf)
      | ((with_reducible refine Tst.ff ?_); conv => whnf)
      | ((with_reducible refine Tst.dec (fun _ => ?_) (fun _ => ?_)) <;> first | (exfalso; omega) | (conv => whnf))
      | ((with_reducible refine Tst.not ?_))
      | (refine Wit.conv ⟨by omega, by omega⟩ ?_; conv => whnf)
      | ((with_reducible refine IdxV.nat (by omega) ?_); conv => whnf)
      | ((with_reducible refine SameW.mk rfl ?_); conv => whnf)
      | (refine LoadV.mem (i := 0) (by assumption) rfl rfl ?_; conv => whnf)
      | (refine LoadV.mem (i := 1) (by assumption) rfl rfl ?_; conv => whnf)
      | (refine LoadV.mem (i := 2) (by assumption) rfl rfl ?_; conv => whnf)
      | ((with_reducible refine Tst.beqT ?_))
      | ((with_reducible refine Tst.beqF ?_))
      | (refine Tst.yes rfl ?_; conv => whnf)
      | (refine Tst.no rfl ?_; conv => whnf)))
      refine loopV (fun x : Nat × Nat => [(0, .string s), (1, .int .i64 0), (9, .int .i64 x.2), (10, .int .i64 x.1)])
        (fun x w2 => x.1 ≤ s.size ∧ x.2 ≤ x.1 ∧ 0 < x.2 ∧ labelB s = restB (decide (x.2 ≠ x.1)) (s.data.toList.drop x.1) ∧ w2 = w1) (fun x => s.size - x.1) ((decN s.data.toList).2, (decN s.data.toList).2) ⟨rfl, rfl, by exact congrArg (Value.int .i64) (Int.zero_add _), by exact congrArg (Value.int .i64) (Int.zero_add _), trivial⟩ ⟨by simp only; omega, by simp, by simp only; omega, by simpa using hL, rfl⟩ ?_
      rintro ⟨i, e⟩ w2 ρ' ⟨h1, h2, h3, h4, rfl⟩
      simp only at h1 h2 h3 h4
      (conv => whnf)
      refine CallV.of (nextE_any s i h1 hs w2) ?_
      rintro v w2 ⟨rfl, rfl⟩
      have hle := decN_le (s.data.toList.drop i)
      rw [drop_len] at hle
      (conv => whnf)
      (repeat' (first
      | (refine Obl.mk ⟨by omega, by omega⟩ ?_; conv => whnf)
      | (refine Obl.mk ⟨by omega, by omega, ⟨by omega, by omega⟩⟩ ?_; conv => whnf)
      | ((with_reducible refine Tst.tt ?_); conv => whnf)
      | ((with_reducible refine Tst.ff ?_); conv => whnf)
      | ((with_reducible refine Tst.dec (fun _ => ?_) (fun _ => ?_)) <;> first | (exfalso; omega) | (conv => whnf))
      | ((with_reducible refine Tst.not ?_))
      | (refine Wit.conv ⟨by omega, by omega⟩ ?_; conv => whnf)
      | ((with_reducible refine IdxV.nat (by omega) ?_); conv => whnf)
      | ((with_reducible refine SameW.mk rfl ?_); conv => whnf)
      | (refine LoadV.mem (i := 0) (by assumption) rfl rfl ?_; conv => whnf)
      | (refine LoadV.mem (i := 1) (by assumption) rfl rfl ?_; conv => whnf)
      | (refine LoadV.mem (i := 2) (by assumption) rfl rfl ?_; conv => whnf)
      | ((with_reducible refine Tst.beqT ?_))
      | ((with_reducible refine Tst.beqF ?_))
      | (refine Tst.yes rfl ?_; conv => whnf)
      | (refine Tst.no rfl ?_; conv => whnf)))
      · refine ⟨⟨e, congrArg (Value.int .i64) (Int.sub_zero _), ?_⟩, rfl⟩
        rw [h4, restB_end h1 (by omega)]
        by_cases he : e = i
        · subst he; simp; omega
        · simp [he]; omega
      · have h5 := restB_step (d := decide (e ≠ i)) (l := s.data.toList.drop i) (by omega)
        rw [h5, decide_eq_false (show ¬ (decN (s.data.toList.drop i)).1 = 46 by omega), Bool.or_false, List.drop_drop] at h4
        refine CallV.of (follower_any _ w2 hT) ?_
        rintro v w2 ⟨rfl, rfl⟩
        cases hf : followB (decN (s.data.toList.drop i)).1
        · rw [hf] at h4
          (conv => whnf)
          (repeat' (first
      | (refine Obl.mk ⟨by omega, by omega⟩ ?_; conv => whnf)
      | (refine Obl.mk ⟨by omega, by omega, ⟨by omega, by omega⟩⟩ ?_; conv => whnf)
      | ((with_reducible refine Tst.tt ?_); conv => whnf)
      | ((with_reducible refine Tst.ff ?_); conv => whnf)
      | ((with_reducible refine Tst.dec (fun _ => ?_) (fun _ => ?_)) <;> first | (exfalso; omega) | (conv => whnf))
      | ((with_reducible refine Tst.not ?_))
      | (refine Wit.conv ⟨by omega, by omega⟩ ?_; conv => whnf)
      | ((with_reducible refine IdxV.nat (by omega) ?_); conv => whnf)
      | ((with_reducible refine SameW.mk rfl ?_); conv => whnf)
      | (refine LoadV.mem (i := 0) (by assumption) rfl rfl ?_; conv => whnf)
      | (refine LoadV.mem (i := 1) (by assumption) rfl rfl ?_; conv => whnf)
      | (refine LoadV.mem (i := 2) (by assumption) rfl rfl ?_; conv => whnf)
      | ((with_reducible refine Tst.beqT ?_))
      | ((with_reducible refine Tst.beqF ?_))
      | (refine Tst.yes rfl ?_; conv => whnf)
      | (refine Tst.no rfl ?_; conv => whnf)))
          refine ⟨⟨e, congrArg (Value.int .i64) (Int.sub_zero _), ?_⟩, rfl⟩
          rw [h4]
          simp; omega
        · rw [hf] at h4
          (conv => whnf)
          (repeat' (first
      | (refine Obl.mk ⟨by omega, by omega⟩ ?_; conv => whnf)
      | (refine Obl.mk ⟨by omega, by omega, ⟨by omega, by omega⟩⟩ ?_; conv => whnf)
      | ((with_reducible refine Tst.tt ?_); conv => whnf)
      | ((with_reducible refine Tst.ff ?_); conv => whnf)
      | ((with_reducible refine Tst.dec (fun _ => ?_) (fun _ => ?_)) <;> first | (exfalso; omega) | (conv => whnf))
      | ((with_reducible refine Tst.not ?_))
      | (refine Wit.conv ⟨by omega, by omega⟩ ?_; conv => whnf)
      | ((with_reducible refine IdxV.nat (by omega) ?_); conv => whnf)
      | ((with_reducible refine SameW.mk rfl ?_); conv => whnf)
      | (refine LoadV.mem (i := 0) (by assumption) rfl rfl ?_; conv => whnf)
      | (refine LoadV.mem (i := 1) (by assumption) rfl rfl ?_; conv => whnf)
      | (refine LoadV.mem (i := 2) (by assumption) rfl rfl ?_; conv => whnf)
      | ((with_reducible refine Tst.beqT ?_))
      | ((with_reducible refine Tst.beqF ?_))
      | (refine Tst.yes rfl ?_; conv => whnf)
      | (refine Tst.no rfl ?_; conv => whnf)))
          · exact ⟨(i + (decN (s.data.toList.drop i)).2, i + (decN (s.data.toList.drop i)).2), ⟨rfl, rfl, rfl, rfl, trivial⟩, ⟨by simp only; omega, Nat.le_refl _, by simp only; omega, by simpa using h4, rfl⟩, by simp only; omega⟩
      · have h5 := restB_step (d := decide (e ≠ i)) (l := s.data.toList.drop i) (by omega)
        rw [h5, decide_eq_true (show (decN (s.data.toList.drop i)).1 = 46 by omega), Bool.or_true, Bool.true_and, List.drop_drop] at h4
        refine ⟨(i + (decN (s.data.toList.drop i)).2, e), ⟨rfl, rfl, rfl, rfl, trivial⟩, ⟨by simp only; omega, by simp only; omega, h3, ?_, rfl⟩, by simp only; omega⟩
        rw [h4]
        congr 1
        exact (decide_eq_true (by simp only; omega)).symm
theorem labelAt_any (s : ByteArray) (hs : s.size ≤ 140737488355328) (w : World) (hT : CellsAt w 3 0 basesV) :
    Gv Tryz.prog 83 [.string s, .int .i64 0] w fun v w' => (∃ n : Nat, v = .int .i64 n ∧ labelB s = decide (n ≠ 0 ∧ n = s.size)) ∧ w' = w := by
  refine gv (by kernel_rfl) Tryz.func83 rfl Tryz.ntmps83 rfl ?_; conv => whnf
  refine CallV.of (run_any s hs w hT) ?_
  rintro v w' ⟨⟨n, rfl, h⟩, rfl⟩
  (conv => whnf)
  exact ⟨⟨n, rfl, h⟩, rfl⟩
noncomputable def labE (s : ByteArray) : Nat := if labelB s = true then 0 else 60
theorem label_any (s : ByteArray) (hs : s.size ≤ 140737488355328) (w : World) (hT : CellsAt w 3 0 basesV) :
    Gv Tryz.prog 44 [.string s] w fun v w' => v = .int .i64 (labE s) ∧ w' = w := by
  refine gv (by kernel_rfl) Tryz.func44 rfl Tryz.ntmps44 rfl ?_; conv => whnf
  refine CallV.of (labelAt_any s hs w hT) ?_
  rintro v w' ⟨⟨n, rfl, h⟩, rfl⟩
  (conv => whnf)
  unfold labE
  rw [h]
  (repeat' (first
      | (refine Obl.mk ⟨by omega, by omega⟩ ?_; conv => whnf)
      | (refine Obl.mk ⟨by omega, by omega, ⟨by omega, by omega⟩⟩ ?_; conv => whnf)
      | ((with_reducible refine Tst.tt ?_); conv => whnf)
      | ((with_reducible refine Tst.ff ?_); conv => whnf)
      | ((with_reducible refine Tst.dec (fun _ => ?_) (fun _ => ?_)) <;> first | (exfalso; omega) | (conv => whnf))
      | ((with_reducible refine Tst.not ?_))
      | (refine Wit.conv ⟨by omega, by omega⟩ ?_; conv => whnf)
      | ((with_reducible refine IdxV.nat (by omega) ?_); conv => whnf)
      | ((with_reducible refine SameW.mk rfl ?_); conv => whnf)
      | (refine LoadV.mem (i := 0) (by assumption) rfl rfl ?_; conv => whnf)
      | (refine LoadV.mem (i := 1) (by assumption) rfl rfl ?_; conv => whnf)
      | (refine LoadV.mem (i := 2) (by assumption) rfl rfl ?_; conv => whnf)
      | ((with_reducible refine Tst.beqT ?_))
      | ((with_reducible refine Tst.beqF ?_))
      | (refine Tst.yes rfl ?_; conv => whnf)
      | (refine Tst.no rfl ?_; conv => whnf)))
  · rw [if_neg (by simp; omega)]; exact ⟨rfl, rfl⟩
  · rw [if_neg (by simp; omega)]; exact ⟨rfl, rfl⟩
  · rw [if_pos (by simp; omega)]; exact ⟨rfl, rfl⟩
end Go.Proofs.YtajgbepghniciaaGreatDoor
namespace Go.Proofs.YtajgbepghniciaaGreatDoor
open Go.RowKit V
set_option maxRecDepth 100000

/-- a scalar's bytes -/
def encL (r : Nat) : List UInt8 :=
  if r < 0x80 then [UInt8.ofNat r]
  else if r < 0x800 then [UInt8.ofNat (0xC0 + r / 64), UInt8.ofNat (0x80 + r % 64)]
  else if r < 0x10000 then [UInt8.ofNat (0xE0 + r / 4096), UInt8.ofNat (0x80 + r / 64 % 64), UInt8.ofNat (0x80 + r % 64)]
  else [UInt8.ofNat (0xF0 + r / 262144), UInt8.ofNat (0x80 + r / 4096 % 64), UInt8.ofNat (0x80 + r / 64 % 64), UInt8.ofNat (0x80 + r % 64)]
theorem u8_nat (n : Nat) (h : n < 256) : ((UInt8.ofNat n).toNat : Int) = n := by rw [UInt8.toNat_ofNat']; omega

end Go.Proofs.YtajgbepghniciaaGreatDoor
namespace Go.Proofs.YtajgbepghniciaaGreatDoor
open Go.RowKit V
set_option maxRecDepth 100000
namespace V
/-- no block of a type -/
def NoneOf (e : TypeId) (L : List (Nat × Obj)) : Prop := ∀ x ∈ L, ∀ c fz, x.2 ≠ .cells c e fz
theorem AppV.rwS {P : Program} {w0 w : World} {v : Value} {e : TypeId} {n : Nat} {xs : List Value} {L : List (Nat × Obj)} {t u ty : TypeId} {i : TypeInfo} {s : ByteArray} {K : Value → World → Prop}
    (ht : P.underlying t = some (.slice e)) (hu : P.underlying u = some .string) (hi : P.info? e = some i) (hz : i.zero = some (.int .u8 0)) (hsize : i.size = 1) (hby : i.bytes = 1)
    (h : Rw w0 w v e 1 n xs L) (hL : NoneOf e L) (hb : n + s.size ≤ 140737488355328)
    (hk : ∀ v' w', Rw w0 w' v' e 1 (n + s.size) (xs ++ byteCells s.data.toList) L → K v' w') : AppV P #[t, u] ty v (.string s) w K := by
  obtain ⟨v', w', hrun, h2, h3, _⟩ := Lib.run_append_own_string (P := P) w w0.heap.size t u ty e i ht hu hi hz hsize hby v n xs h.own s (by simp only [maxLen]; omega) hb h.mem.ext.size
  have hm := h.grown h3 (fun k hk => ⟨(h.own.lt k hk).1, fun x hx e => h.apart x hx (by rw [hk, e])⟩)
  refine ⟨v', w', hrun, hk _ _ ⟨hm, h2, fun x hx he => ?_⟩⟩
  have hx' := hm.get hx
  rcases h2.2 with ⟨rfl, _⟩ | ⟨g, cap, cur, rfl, _, hg, _⟩
  · cases he
  · cases he
    rw [hx'] at hg
    exact hL x hx _ _ (Option.some.inj hg)

end V

theorem byteCells_append' (a b : List UInt8) : byteCells (a ++ b) = byteCells a ++ byteCells b := by simp [byteCells]
theorem gv_of' {P : Program} {f : FuncId} {vs : List Value} {w : World} {R : Value → World → Prop} (he : enters P f = true) (h : Calls P f vs.toArray w fun e w' => ∃ v, e = .returned v ∧ R v w') : Gv P f vs w R := ⟨he, h⟩
end Go.Proofs.YtajgbepghniciaaGreatDoor
namespace Go.Proofs.YtajgbepghniciaaGreatDoor
open Go.RowKit V
set_option maxRecDepth 100000

theorem decN_cases (l : List UInt8) (h : (decN l).2 ≠ 0) :
    (∃ a t, l = a :: t ∧ decN l = (a.toNat, 1) ∧ a.toNat < 128) ∨
    (∃ a b t, l = a :: b :: t ∧ decN l = (a.toNat % 32 * 64 + b.toNat % 64, 2) ∧ 192 ≤ a.toNat ∧ a.toNat < 224 ∧ b.toNat / 64 = 2 ∧ 128 ≤ a.toNat % 32 * 64 + b.toNat % 64) ∨
    (∃ a b c t, l = a :: b :: c :: t ∧ decN l = ((a.toNat % 16 * 64 + b.toNat % 64) * 64 + c.toNat % 64, 3) ∧ 224 ≤ a.toNat ∧ a.toNat < 240 ∧ b.toNat / 64 = 2 ∧ c.toNat / 64 = 2 ∧
      2048 ≤ (a.toNat % 16 * 64 + b.toNat % 64) * 64 + c.toNat % 64 ∧ scalarB (((a.toNat % 16 * 64 + b.toNat % 64) * 64 + c.toNat % 64 : Nat) : Int) = true) ∨
    (∃ a b c d t, l = a :: b :: c :: d :: t ∧ decN l = (((a.toNat % 8 * 64 + b.toNat % 64) * 64 + c.toNat % 64) * 64 + d.toNat % 64, 4) ∧ 240 ≤ a.toNat ∧ a.toNat < 248 ∧ b.toNat / 64 = 2 ∧ c.toNat / 64 = 2 ∧ d.toNat / 64 = 2 ∧
      65536 ≤ ((a.toNat % 8 * 64 + b.toNat % 64) * 64 + c.toNat % 64) * 64 + d.toNat % 64 ∧ scalarB ((((a.toNat % 8 * 64 + b.toNat % 64) * 64 + c.toNat % 64) * 64 + d.toNat % 64 : Nat) : Int) = true) := by
  match l with
  | [] => exact absurd rfl h
  | a :: t =>
    have ha := a.toNat_lt
    generalize hd : decN (a :: t) = d at h ⊢
    unfold decN at hd
    by_cases h1 : a.toNat < 128
    · have e : leadI a.toNat = (1, a.toNat) := by rw [leadI, if_pos h1]
      simp only [e, Nat.sub_self, List.take_zero, List.all_nil, if_true, accR, List.foldl_nil, leastN] at hd
      rw [if_neg (by simp)] at hd
      left
      refine ⟨a, t, rfl, ?_, h1⟩
      have hs : scalarB (a.toNat : Int) = true := by simp [scalarB]; omega
      rw [hs] at hd
      simpa using hd.symm
    by_cases h2 : a.toNat < 192
    · have e : leadI a.toNat = (0, 0) := by rw [leadI, if_neg h1, if_pos h2]
      simp [e] at hd
      rw [← hd] at h; exact absurd rfl h
    by_cases h3 : a.toNat < 224
    · have e : leadI a.toNat = (2, a.toNat % 32) := by rw [leadI, if_neg h1, if_neg h2, if_pos h3]
      match t with
      | [] => simp [e] at hd; rw [← hd] at h; exact absurd rfl h
      | b :: t =>
        simp only [e, List.take_succ_cons, List.take_zero, List.all_cons, List.all_nil, Bool.and_true, accR, List.foldl_cons, List.foldl_nil, List.length_cons, Nat.reduceSub] at hd
        rw [if_neg (by omega)] at hd
        cases hc : cont b <;> simp only [hc] at hd
        · simp at hd; rw [← hd] at h; exact absurd rfl h
        · rw [if_pos True.intro] at hd
          split at hd
          · rw [← hd] at h; exact absurd rfl h
          · rename_i hn
            right; left
            simp [cont] at hc
            refine ⟨a, b, t, rfl, hd.symm, by omega, h3, hc, ?_⟩
            have h2k : leastN 2 = 128 := rfl
            rw [h2k] at hn; omega
    by_cases h4 : a.toNat < 240
    · have e : leadI a.toNat = (3, a.toNat % 16) := by rw [leadI, if_neg h1, if_neg h2, if_neg h3, if_pos h4]
      match t with
      | [] => simp [e] at hd; rw [← hd] at h; exact absurd rfl h
      | [b] => simp [e] at hd; rw [← hd] at h; exact absurd rfl h
      | b :: c :: t =>
        simp only [e, List.take_succ_cons, List.take_zero, List.all_cons, List.all_nil, Bool.and_true, accR, List.foldl_cons, List.foldl_nil, List.length_cons, Nat.reduceSub] at hd
        rw [if_neg (by omega)] at hd
        cases hc : cont b && cont c <;> simp only [hc] at hd
        · simp at hd; rw [← hd] at h; exact absurd rfl h
        · rw [if_pos True.intro] at hd
          split at hd
          · rw [← hd] at h; exact absurd rfl h
          · rename_i hn
            right; right; left
            simp [cont] at hc
            simp only [not_or, Bool.not_eq_false] at hn
            refine ⟨a, b, c, t, rfl, hd.symm, by omega, h4, hc.1, hc.2, ?_, hn.2⟩
            have := hn.1; have h2k : leastN 3 = 2048 := rfl; omega
    by_cases h5 : a.toNat < 248
    · have e : leadI a.toNat = (4, a.toNat % 8) := by rw [leadI, if_neg h1, if_neg h2, if_neg h3, if_neg h4, if_pos h5]
      match t with
      | [] => simp [e] at hd; rw [← hd] at h; exact absurd rfl h
      | [b] => simp [e] at hd; rw [← hd] at h; exact absurd rfl h
      | [b, c] => simp [e] at hd; rw [← hd] at h; exact absurd rfl h
      | b :: c :: d :: t =>
        simp only [e, List.take_succ_cons, List.take_zero, List.all_cons, List.all_nil, Bool.and_true, accR, List.foldl_cons, List.foldl_nil, List.length_cons, Nat.reduceSub] at hd
        rw [if_neg (by omega)] at hd
        cases hc : cont b && (cont c && cont d) <;> simp only [hc] at hd
        · simp at hd; rw [← hd] at h; exact absurd rfl h
        · rw [if_pos True.intro] at hd
          split at hd
          · rw [← hd] at h; exact absurd rfl h
          · rename_i hn
            right; right; right
            simp [cont] at hc
            simp only [not_or, Bool.not_eq_false] at hn
            refine ⟨a, b, c, d, t, rfl, hd.symm, by omega, h5, hc.1, hc.2.1, hc.2.2, ?_, hn.2⟩
            have := hn.1; have h2k : leastN 4 = 65536 := rfl; omega
    · have e : leadI a.toNat = (0, 0) := by rw [leadI, if_neg h1, if_neg h2, if_neg h3, if_neg h4, if_neg h5]
      simp [e] at hd
      rw [← hd] at h; exact absurd rfl h

theorem u8_eq (n : Nat) (a : UInt8) (h : n = a.toNat) : UInt8.ofNat n = a := by subst h; simp
theorem decN_enc {l : List UInt8} (h : (decN l).2 ≠ 0) : scalarB (decN l).1 = true ∧ encL (decN l).1 = l.take (decN l).2 ∧ (encL (decN l).1).length = (decN l).2 := by
  rcases decN_cases l h with ⟨a, t, rfl, e, h1⟩ | ⟨a, b, t, rfl, e, h1, h2, h3, h4⟩ | ⟨a, b, c, t, rfl, e, h1, h2, h3, h4, h5, h6⟩ | ⟨a, b, c, d, t, rfl, e, h1, h2, h3, h4, h5, h6, h7⟩
  · rw [e]
    simp only
    have hs : scalarB (a.toNat : Int) = true := by simp [scalarB]; omega
    refine ⟨hs, ?_⟩
    unfold encL; rw [if_pos h1]
    simp
  · rw [e]
    simp only
    have ha := a.toNat_lt; have hb := b.toNat_lt
    refine ⟨by simp [scalarB]; omega, ?_⟩
    unfold encL; rw [if_neg (by omega), if_pos (by omega)]
    rw [u8_eq _ a (by omega), u8_eq _ b (by omega)]
    simp
  · rw [e]
    simp only
    have ha := a.toNat_lt; have hb := b.toNat_lt; have hc := c.toNat_lt
    refine ⟨h6, ?_⟩
    unfold encL; rw [if_neg (by omega), if_neg (by omega), if_pos (by omega)]
    rw [u8_eq _ a (by omega), u8_eq _ b (by omega), u8_eq _ c (by omega)]
    simp
  · rw [e]
    simp only
    have ha := a.toNat_lt; have hb := b.toNat_lt; have hc := c.toNat_lt; have hd := d.toNat_lt
    refine ⟨h7, ?_⟩
    unfold encL; rw [if_neg (by omega), if_neg (by omega), if_neg (by omega)]
    rw [u8_eq _ a (by omega), u8_eq _ b (by omega), u8_eq _ c (by omega), u8_eq _ d (by omega)]
    simp

namespace V
theorem NewV.rw {w0 w : World} {v : Value} {e : TypeId} {size n : Nat} {xs : List Value} {L : List (Nat × Obj)} {o : Obj} {K : Nat → World → Prop} (h : Rw w0 w v e size n xs L) (hk : ∀ b w', Rw w0 w' v e size n xs ((b, o) :: L) → K b w') : NewV w o K :=
  ⟨fun b w' hb hw => hk b w' (h.newBlk hb hw)⟩
end V

theorem BytesS.all {w : World} {b n : Nat} {l : List UInt8} {K : Value → Prop} (h : CellsAt w b 0 (byteCells l)) (hn : l.length = n) (hk : K (.string ⟨l.toArray⟩)) : BytesS w (some ⟨b, 0, none⟩) n K :=
  ⟨l, hn, fun _ => ⟨b, 0, rfl, h⟩, hk⟩

end Go.Proofs.YtajgbepghniciaaGreatDoor
namespace Go.Proofs.YtajgbepghniciaaGreatDoor
open Go.RowKit V
set_option maxRecDepth 100000

def alnB (pure : Bool) (c : UInt8) : Bool := letN c.toNat || (!pure && digN c.toNat)
def madeB (s : ByteArray) (lo hi : Nat) (pure : Bool) : Bool := s.data.toList.all (alnB pure) && decide (lo ≤ s.size ∧ s.size ≤ hi)
theorem made_any (s : ByteArray) (lo hi : Nat) (pure : Bool) (hs : s.size ≤ 140737488355328) (w : World) :
    Gv Tryz.prog 258 [.string s, .int .i64 lo, .int .i64 hi, .bool pure] w fun v w' => v = .bool (madeB s lo hi pure) ∧ Ext w w' := by
  refine gv (by kernel_rfl) Tryz.func258 rfl Tryz.ntmps258 rfl ?_; conv => whnf
  refine NewV.mem (Mem.nil w) ?_
  intro b w1 hm
  (conv => whnf)
  refine loopV (fun pos : Nat => [(0, .string s), (1, .int .i64 lo), (2, .int .i64 hi), (3, .bool pure), (12, .pointer (some ⟨b, 0, none⟩))])
    (fun pos w2 => pos ≤ s.size ∧ Mem w w2 [(b, .stringIter s pos)] ∧ s.data.toList.all (alnB pure) = (s.data.toList.drop pos).all (alnB pure)) (fun pos => s.size - pos) 0 ⟨rfl, rfl, rfl, rfl, rfl, trivial⟩ ⟨by omega, hm, rfl⟩ ?_
  rintro pos w2 ρ' ⟨hp, hm, ha⟩
  (conv => whnf)
  refine NextS.mem hm (i := 0) rfl ?_ ?_
  · intro hlt w3 hm3
    have hno : alnB pure (gb s pos) = false → madeB s lo hi pure = false := fun h => by
      rw [madeB, ha, drop_get s pos hlt, List.all_cons, h]; rfl
    have hyes : alnB pure (gb s pos) = true → s.data.toList.all (alnB pure) = (s.data.toList.drop (pos + 1)).all (alnB pure) := fun h => by
      rw [ha, drop_get s pos hlt, List.all_cons, h]; rfl
    by_cases hb : (gb s pos).toNat < 128
    · have hd := decode_low s pos hb
      rw [hd] at hm3 ⊢
      simp only at hm3 ⊢
      (conv => whnf)
      (repeat' (first
      | (refine Obl.mk ⟨by omega, by omega⟩ ?_; conv => whnf)
      | (refine Obl.mk ⟨by omega, by omega, ⟨by omega, by omega⟩⟩ ?_; conv => whnf)
      | ((with_reducible refine Tst.tt ?_); conv => whnf)
      | ((with_reducible refine Tst.ff ?_); conv => whnf)
      | ((with_reducible refine Tst.dec (fun _ => ?_) (fun _ => ?_)) <;> first | (exfalso; omega) | (conv => whnf))
      | ((with_reducible refine Tst.not ?_))
      | (refine Wit.conv ⟨by omega, by omega⟩ ?_; conv => whnf)
      | ((with_reducible refine IdxV.nat (by omega) ?_); conv => whnf)
      | ((with_reducible refine SameW.mk rfl ?_); conv => whnf)
      | (refine LoadV.mem (i := 0) (by assumption) rfl rfl ?_; conv => whnf)
      | (refine LoadV.mem (i := 1) (by assumption) rfl rfl ?_; conv => whnf)
      | (refine LoadV.mem (i := 2) (by assumption) rfl rfl ?_; conv => whnf)
      | ((with_reducible refine Tst.beqT ?_))
      | ((with_reducible refine Tst.beqF ?_))
      | (refine Tst.yes rfl ?_; conv => whnf)
      | (refine Tst.no rfl ?_; conv => whnf)))
      refine CallV.of (letter_any _ w3) ?_
      rintro v w4 ⟨rfl, rfl⟩
      cases hl : letN (gb s pos).toNat
      · cases pure
        · (conv => whnf)
          (repeat' (first
      | (refine Obl.mk ⟨by omega, by omega⟩ ?_; conv => whnf)
      | (refine Obl.mk ⟨by omega, by omega, ⟨by omega, by omega⟩⟩ ?_; conv => whnf)
      | ((with_reducible refine Tst.tt ?_); conv => whnf)
      | ((with_reducible refine Tst.ff ?_); conv => whnf)
      | ((with_reducible refine Tst.dec (fun _ => ?_) (fun _ => ?_)) <;> first | (exfalso; omega) | (conv => whnf))
      | ((with_reducible refine Tst.not ?_))
      | (refine Wit.conv ⟨by omega, by omega⟩ ?_; conv => whnf)
      | ((with_reducible refine IdxV.nat (by omega) ?_); conv => whnf)
      | ((with_reducible refine SameW.mk rfl ?_); conv => whnf)
      | (refine LoadV.mem (i := 0) (by assumption) rfl rfl ?_; conv => whnf)
      | (refine LoadV.mem (i := 1) (by assumption) rfl rfl ?_; conv => whnf)
      | (refine LoadV.mem (i := 2) (by assumption) rfl rfl ?_; conv => whnf)
      | ((with_reducible refine Tst.beqT ?_))
      | ((with_reducible refine Tst.beqF ?_))
      | (refine Tst.yes rfl ?_; conv => whnf)
      | (refine Tst.no rfl ?_; conv => whnf)))
          refine CallV.of (digit_any _ w4) ?_
          rintro v w5 ⟨rfl, rfl⟩
          cases hg : digN (gb s pos).toNat
          · have hx : alnB false (gb s pos) = false := by rw [alnB, hl, hg]; rfl
            (conv => whnf)
            (repeat' (first
      | (refine Obl.mk ⟨by omega, by omega⟩ ?_; conv => whnf)
      | (refine Obl.mk ⟨by omega, by omega, ⟨by omega, by omega⟩⟩ ?_; conv => whnf)
      | ((with_reducible refine Tst.tt ?_); conv => whnf)
      | ((with_reducible refine Tst.ff ?_); conv => whnf)
      | ((with_reducible refine Tst.dec (fun _ => ?_) (fun _ => ?_)) <;> first | (exfalso; omega) | (conv => whnf))
      | ((with_reducible refine Tst.not ?_))
      | (refine Wit.conv ⟨by omega, by omega⟩ ?_; conv => whnf)
      | ((with_reducible refine IdxV.nat (by omega) ?_); conv => whnf)
      | ((with_reducible refine SameW.mk rfl ?_); conv => whnf)
      | (refine LoadV.mem (i := 0) (by assumption) rfl rfl ?_; conv => whnf)
      | (refine LoadV.mem (i := 1) (by assumption) rfl rfl ?_; conv => whnf)
      | (refine LoadV.mem (i := 2) (by assumption) rfl rfl ?_; conv => whnf)
      | ((with_reducible refine Tst.beqT ?_))
      | ((with_reducible refine Tst.beqF ?_))
      | (refine Tst.yes rfl ?_; conv => whnf)
      | (refine Tst.no rfl ?_; conv => whnf)))
            exact ⟨by rw [hno hx], hm3.ext⟩
          · have hx : alnB false (gb s pos) = true := by rw [alnB, hl, hg]; rfl
            (conv => whnf)
            (repeat' (first
      | (refine Obl.mk ⟨by omega, by omega⟩ ?_; conv => whnf)
      | (refine Obl.mk ⟨by omega, by omega, ⟨by omega, by omega⟩⟩ ?_; conv => whnf)
      | ((with_reducible refine Tst.tt ?_); conv => whnf)
      | ((with_reducible refine Tst.ff ?_); conv => whnf)
      | ((with_reducible refine Tst.dec (fun _ => ?_) (fun _ => ?_)) <;> first | (exfalso; omega) | (conv => whnf))
      | ((with_reducible refine Tst.not ?_))
      | (refine Wit.conv ⟨by omega, by omega⟩ ?_; conv => whnf)
      | ((with_reducible refine IdxV.nat (by omega) ?_); conv => whnf)
      | ((with_reducible refine SameW.mk rfl ?_); conv => whnf)
      | (refine LoadV.mem (i := 0) (by assumption) rfl rfl ?_; conv => whnf)
      | (refine LoadV.mem (i := 1) (by assumption) rfl rfl ?_; conv => whnf)
      | (refine LoadV.mem (i := 2) (by assumption) rfl rfl ?_; conv => whnf)
      | ((with_reducible refine Tst.beqT ?_))
      | ((with_reducible refine Tst.beqF ?_))
      | (refine Tst.yes rfl ?_; conv => whnf)
      | (refine Tst.no rfl ?_; conv => whnf)))
            exact ⟨pos + 1, ⟨rfl, rfl, rfl, rfl, rfl, trivial⟩, ⟨by omega, hm3, hyes hx⟩, by omega⟩
        · have hx : alnB true (gb s pos) = false := by rw [alnB, hl]; rfl
          (conv => whnf)
          (repeat' (first
      | (refine Obl.mk ⟨by omega, by omega⟩ ?_; conv => whnf)
      | (refine Obl.mk ⟨by omega, by omega, ⟨by omega, by omega⟩⟩ ?_; conv => whnf)
      | ((with_reducible refine Tst.tt ?_); conv => whnf)
      | ((with_reducible refine Tst.ff ?_); conv => whnf)
      | ((with_reducible refine Tst.dec (fun _ => ?_) (fun _ => ?_)) <;> first | (exfalso; omega) | (conv => whnf))
      | ((with_reducible refine Tst.not ?_))
      | (refine Wit.conv ⟨by omega, by omega⟩ ?_; conv => whnf)
      | ((with_reducible refine IdxV.nat (by omega) ?_); conv => whnf)
      | ((with_reducible refine SameW.mk rfl ?_); conv => whnf)
      | (refine LoadV.mem (i := 0) (by assumption) rfl rfl ?_; conv => whnf)
      | (refine LoadV.mem (i := 1) (by assumption) rfl rfl ?_; conv => whnf)
      | (refine LoadV.mem (i := 2) (by assumption) rfl rfl ?_; conv => whnf)
      | ((with_reducible refine Tst.beqT ?_))
      | ((with_reducible refine Tst.beqF ?_))
      | (refine Tst.yes rfl ?_; conv => whnf)
      | (refine Tst.no rfl ?_; conv => whnf)))
          exact ⟨by rw [hno hx], hm3.ext⟩
      · have hx : alnB pure (gb s pos) = true := by rw [alnB, hl]; rfl
        (conv => whnf)
        (repeat' (first
      | (refine Obl.mk ⟨by omega, by omega⟩ ?_; conv => whnf)
      | (refine Obl.mk ⟨by omega, by omega, ⟨by omega, by omega⟩⟩ ?_; conv => whnf)
      | ((with_reducible refine Tst.tt ?_); conv => whnf)
      | ((with_reducible refine Tst.ff ?_); conv => whnf)
      | ((with_reducible refine Tst.dec (fun _ => ?_) (fun _ => ?_)) <;> first | (exfalso; omega) | (conv => whnf))
      | ((with_reducible refine Tst.not ?_))
      | (refine Wit.conv ⟨by omega, by omega⟩ ?_; conv => whnf)
      | ((with_reducible refine IdxV.nat (by omega) ?_); conv => whnf)
      | ((with_reducible refine SameW.mk rfl ?_); conv => whnf)
      | (refine LoadV.mem (i := 0) (by assumption) rfl rfl ?_; conv => whnf)
      | (refine LoadV.mem (i := 1) (by assumption) rfl rfl ?_; conv => whnf)
      | (refine LoadV.mem (i := 2) (by assumption) rfl rfl ?_; conv => whnf)
      | ((with_reducible refine Tst.beqT ?_))
      | ((with_reducible refine Tst.beqF ?_))
      | (refine Tst.yes rfl ?_; conv => whnf)
      | (refine Tst.no rfl ?_; conv => whnf)))
        exact ⟨pos + 1, ⟨rfl, rfl, rfl, rfl, rfl, trivial⟩, ⟨by omega, hm3, hyes hx⟩, by omega⟩
    · have hd := decode_hi s pos hlt (by omega)
      obtain ⟨d1, d2, d3, d4, d5⟩ := hd
      have hl : letN (Utf8.decode s pos).1 = false := by simp [letN]; omega
      have hg : digN (Utf8.decode s pos).1 = false := by simp [digN]; omega
      have hx : alnB pure (gb s pos) = false := by
        simp [alnB, letN, digN]; omega
      (conv => whnf)
      (repeat' (first
      | (refine Obl.mk ⟨by omega, by omega⟩ ?_; conv => whnf)
      | (refine Obl.mk ⟨by omega, by omega, ⟨by omega, by omega⟩⟩ ?_; conv => whnf)
      | ((with_reducible refine Tst.tt ?_); conv => whnf)
      | ((with_reducible refine Tst.ff ?_); conv => whnf)
      | ((with_reducible refine Tst.dec (fun _ => ?_) (fun _ => ?_)) <;> first | (exfalso; omega) | (conv => whnf))
      | ((with_reducible refine Tst.not ?_))
      | (refine Wit.conv ⟨by omega, by omega⟩ ?_; conv => whnf)
      | ((with_reducible refine IdxV.nat (by omega) ?_); conv => whnf)
      | ((with_reducible refine SameW.mk rfl ?_); conv => whnf)
      | (refine LoadV.mem (i := 0) (by assumption) rfl rfl ?_; conv => whnf)
      | (refine LoadV.mem (i := 1) (by assumption) rfl rfl ?_; conv => whnf)
      | (refine LoadV.mem (i := 2) (by assumption) rfl rfl ?_; conv => whnf)
      | ((with_reducible refine Tst.beqT ?_))
      | ((with_reducible refine Tst.beqF ?_))
      | (refine Tst.yes rfl ?_; conv => whnf)
      | (refine Tst.no rfl ?_; conv => whnf)))
      refine CallV.of (letter_any _ w3) ?_
      rintro v w4 ⟨rfl, rfl⟩
      rw [hl]
      cases pure
      · (conv => whnf)
        (repeat' (first
      | (refine Obl.mk ⟨by omega, by omega⟩ ?_; conv => whnf)
      | (refine Obl.mk ⟨by omega, by omega, ⟨by omega, by omega⟩⟩ ?_; conv => whnf)
      | ((with_reducible refine Tst.tt ?_); conv => whnf)
      | ((with_reducible refine Tst.ff ?_); conv => whnf)
      | ((with_reducible refine Tst.dec (fun _ => ?_) (fun _ => ?_)) <;> first | (exfalso; omega) | (conv => whnf))
      | ((with_reducible refine Tst.not ?_))
      | (refine Wit.conv ⟨by omega, by omega⟩ ?_; conv => whnf)
      | ((with_reducible refine IdxV.nat (by omega) ?_); conv => whnf)
      | ((with_reducible refine SameW.mk rfl ?_); conv => whnf)
      | (refine LoadV.mem (i := 0) (by assumption) rfl rfl ?_; conv => whnf)
      | (refine LoadV.mem (i := 1) (by assumption) rfl rfl ?_; conv => whnf)
      | (refine LoadV.mem (i := 2) (by assumption) rfl rfl ?_; conv => whnf)
      | ((with_reducible refine Tst.beqT ?_))
      | ((with_reducible refine Tst.beqF ?_))
      | (refine Tst.yes rfl ?_; conv => whnf)
      | (refine Tst.no rfl ?_; conv => whnf)))
        refine CallV.of (digit_any _ w4) ?_
        rintro v w5 ⟨rfl, rfl⟩
        rw [hg]
        (conv => whnf)
        (repeat' (first
      | (refine Obl.mk ⟨by omega, by omega⟩ ?_; conv => whnf)
      | (refine Obl.mk ⟨by omega, by omega, ⟨by omega, by omega⟩⟩ ?_; conv => whnf)
      | ((with_reducible refine Tst.tt ?_); conv => whnf)
      | ((with_reducible refine Tst.ff ?_); conv => whnf)
      | ((with_reducible refine Tst.dec (fun _ => ?_) (fun _ => ?_)) <;> first | (exfalso; omega) | (conv => whnf))
      | ((with_reducible refine Tst.not ?_))
      | (refine Wit.conv ⟨by omega, by omega⟩ ?_; conv => whnf)
      | ((with_reducible refine IdxV.nat (by omega) ?_); conv => whnf)
      | ((with_reducible refine SameW.mk rfl ?_); conv => whnf)
      | (refine LoadV.mem (i := 0) (by assumption) rfl rfl ?_; conv => whnf)
      | (refine LoadV.mem (i := 1) (by assumption) rfl rfl ?_; conv => whnf)
      | (refine LoadV.mem (i := 2) (by assumption) rfl rfl ?_; conv => whnf)
      | ((with_reducible refine Tst.beqT ?_))
      | ((with_reducible refine Tst.beqF ?_))
      | (refine Tst.yes rfl ?_; conv => whnf)
      | (refine Tst.no rfl ?_; conv => whnf)))
        exact ⟨by rw [hno hx], hm3.ext⟩
      · (conv => whnf)
        (repeat' (first
      | (refine Obl.mk ⟨by omega, by omega⟩ ?_; conv => whnf)
      | (refine Obl.mk ⟨by omega, by omega, ⟨by omega, by omega⟩⟩ ?_; conv => whnf)
      | ((with_reducible refine Tst.tt ?_); conv => whnf)
      | ((with_reducible refine Tst.ff ?_); conv => whnf)
      | ((with_reducible refine Tst.dec (fun _ => ?_) (fun _ => ?_)) <;> first | (exfalso; omega) | (conv => whnf))
      | ((with_reducible refine Tst.not ?_))
      | (refine Wit.conv ⟨by omega, by omega⟩ ?_; conv => whnf)
      | ((with_reducible refine IdxV.nat (by omega) ?_); conv => whnf)
      | ((with_reducible refine SameW.mk rfl ?_); conv => whnf)
      | (refine LoadV.mem (i := 0) (by assumption) rfl rfl ?_; conv => whnf)
      | (refine LoadV.mem (i := 1) (by assumption) rfl rfl ?_; conv => whnf)
      | (refine LoadV.mem (i := 2) (by assumption) rfl rfl ?_; conv => whnf)
      | ((with_reducible refine Tst.beqT ?_))
      | ((with_reducible refine Tst.beqF ?_))
      | (refine Tst.yes rfl ?_; conv => whnf)
      | (refine Tst.no rfl ?_; conv => whnf)))
        exact ⟨by rw [hno hx], hm3.ext⟩
  · intro hge
    rw [List.drop_eq_nil_of_le (by simp; omega)] at ha
    have hM : madeB s lo hi pure = decide (lo ≤ s.size ∧ s.size ≤ hi) := by rw [madeB, ha]; rfl
    (conv => whnf)
    (repeat' (first
      | (refine Obl.mk ⟨by omega, by omega⟩ ?_; conv => whnf)
      | (refine Obl.mk ⟨by omega, by omega, ⟨by omega, by omega⟩⟩ ?_; conv => whnf)
      | ((with_reducible refine Tst.tt ?_); conv => whnf)
      | ((with_reducible refine Tst.ff ?_); conv => whnf)
      | ((with_reducible refine Tst.dec (fun _ => ?_) (fun _ => ?_)) <;> first | (exfalso; omega) | (conv => whnf))
      | ((with_reducible refine Tst.not ?_))
      | (refine Wit.conv ⟨by omega, by omega⟩ ?_; conv => whnf)
      | ((with_reducible refine IdxV.nat (by omega) ?_); conv => whnf)
      | ((with_reducible refine SameW.mk rfl ?_); conv => whnf)
      | (refine LoadV.mem (i := 0) (by assumption) rfl rfl ?_; conv => whnf)
      | (refine LoadV.mem (i := 1) (by assumption) rfl rfl ?_; conv => whnf)
      | (refine LoadV.mem (i := 2) (by assumption) rfl rfl ?_; conv => whnf)
      | ((with_reducible refine Tst.beqT ?_))
      | ((with_reducible refine Tst.beqF ?_))
      | (refine Tst.yes rfl ?_; conv => whnf)
      | (refine Tst.no rfl ?_; conv => whnf)))
    · exact ⟨congrArg Value.bool (by rw [hM, Bool.eq_iff_iff]; simp; omega), hm.ext⟩
    · exact ⟨congrArg Value.bool (by rw [hM, eq_comm, decide_eq_false_iff_not]; omega), hm.ext⟩
def privB (s : ByteArray) : Bool := decide (s = ⟨#[120]⟩ ∨ s = ⟨#[88]⟩)
theorem seq_no {a b : ByteArray} (h : a ≠ b) : seq a b = false := Bool.eq_false_iff.2 fun e => h (seq_iff.1 e)
theorem private_any (s : ByteArray) (w : World) : Gv Tryz.prog 212 [.string s] w fun v w' => v = .bool (privB s) ∧ w' = w := by
  refine gv (by kernel_rfl) Tryz.func212 rfl Tryz.ntmps212 rfl ?_; conv => whnf
  by_cases h : s = ⟨#[120]⟩
  · refine Tst.yes (seq_iff.2 h) ?_
    (conv => whnf)
    (repeat' (first
      | (refine Obl.mk ⟨by omega, by omega⟩ ?_; conv => whnf)
      | (refine Obl.mk ⟨by omega, by omega, ⟨by omega, by omega⟩⟩ ?_; conv => whnf)
      | ((with_reducible refine Tst.tt ?_); conv => whnf)
      | ((with_reducible refine Tst.ff ?_); conv => whnf)
      | ((with_reducible refine Tst.dec (fun _ => ?_) (fun _ => ?_)) <;> first | (exfalso; omega) | (conv => whnf))
      | ((with_reducible refine Tst.not ?_))
      | (refine Wit.conv ⟨by omega, by omega⟩ ?_; conv => whnf)
      | ((with_reducible refine IdxV.nat (by omega) ?_); conv => whnf)
      | ((with_reducible refine SameW.mk rfl ?_); conv => whnf)
      | (refine LoadV.mem (i := 0) (by assumption) rfl rfl ?_; conv => whnf)
      | (refine LoadV.mem (i := 1) (by assumption) rfl rfl ?_; conv => whnf)
      | (refine LoadV.mem (i := 2) (by assumption) rfl rfl ?_; conv => whnf)
      | ((with_reducible refine Tst.beqT ?_))
      | ((with_reducible refine Tst.beqF ?_))
      | (refine Tst.yes rfl ?_; conv => whnf)
      | (refine Tst.no rfl ?_; conv => whnf)))
    exact ⟨congrArg Value.bool (decide_eq_true (.inl h)).symm, rfl⟩
  · refine Tst.no (seq_no h) ?_
    (conv => whnf)
    (repeat' (first
      | (refine Obl.mk ⟨by omega, by omega⟩ ?_; conv => whnf)
      | (refine Obl.mk ⟨by omega, by omega, ⟨by omega, by omega⟩⟩ ?_; conv => whnf)
      | ((with_reducible refine Tst.tt ?_); conv => whnf)
      | ((with_reducible refine Tst.ff ?_); conv => whnf)
      | ((with_reducible refine Tst.dec (fun _ => ?_) (fun _ => ?_)) <;> first | (exfalso; omega) | (conv => whnf))
      | ((with_reducible refine Tst.not ?_))
      | (refine Wit.conv ⟨by omega, by omega⟩ ?_; conv => whnf)
      | ((with_reducible refine IdxV.nat (by omega) ?_); conv => whnf)
      | ((with_reducible refine SameW.mk rfl ?_); conv => whnf)
      | (refine LoadV.mem (i := 0) (by assumption) rfl rfl ?_; conv => whnf)
      | (refine LoadV.mem (i := 1) (by assumption) rfl rfl ?_; conv => whnf)
      | (refine LoadV.mem (i := 2) (by assumption) rfl rfl ?_; conv => whnf)
      | ((with_reducible refine Tst.beqT ?_))
      | ((with_reducible refine Tst.beqF ?_))
      | (refine Tst.yes rfl ?_; conv => whnf)
      | (refine Tst.no rfl ?_; conv => whnf)))
    by_cases h2 : s = ⟨#[88]⟩
    · refine ⟨congrArg Value.bool ?_, rfl⟩
      rw [seq_iff.2 h2, privB, decide_eq_true (.inr h2)]
    · refine ⟨congrArg Value.bool ?_, rfl⟩
      rw [seq_no h2, privB, decide_eq_false (by simp [h, h2])]
theorem wrap32 (c : UInt8) : IntKind.i32.wrap (c.toNat : Int) = (c.toNat : Int) := by
  have := c.toNat_lt
  simp [IntKind.wrap, IntKind.signed, IntKind.bits]
  omega
def varB (s : ByteArray) : Bool := madeB s 5 8 false || (madeB s 4 4 false && digN (gb s 0).toNat)
def regB (s : ByteArray) : Bool := madeB s 2 2 true || (decide (s.size = 3) && digN (gb s 0).toNat && digN (gb s 1).toNat && digN (gb s 2).toNat)
theorem variant_any (s : ByteArray) (hs : s.size ≤ 140737488355328) (w : World) : Gv Tryz.prog 262 [.string s] w fun v w' => v = .bool (varB s) ∧ Ext w w' := by
  have h1 := fun w => made_any s 5 8 false hs w
  have h2 := fun w => made_any s 4 4 false hs w
  refine gv (by kernel_rfl) Tryz.func262 rfl Tryz.ntmps262 rfl ?_; conv => whnf
  refine CallV.of (h1 w) ?_
  rintro v w1 ⟨rfl, he1⟩
  cases m1 : madeB s 5 8 false
  · (conv => whnf)
    (repeat' (first
      | (refine Obl.mk ⟨by omega, by omega⟩ ?_; conv => whnf)
      | (refine Obl.mk ⟨by omega, by omega, ⟨by omega, by omega⟩⟩ ?_; conv => whnf)
      | ((with_reducible refine Tst.tt ?_); conv => whnf)
      | ((with_reducible refine Tst.ff ?_); conv => whnf)
      | ((with_reducible refine Tst.dec (fun _ => ?_) (fun _ => ?_)) <;> first | (exfalso; omega) | (conv => whnf))
      | ((with_reducible refine Tst.not ?_))
      | (refine Wit.conv ⟨by omega, by omega⟩ ?_; conv => whnf)
      | ((with_reducible refine IdxV.nat (by omega) ?_); conv => whnf)
      | ((with_reducible refine SameW.mk rfl ?_); conv => whnf)
      | (refine LoadV.mem (i := 0) (by assumption) rfl rfl ?_; conv => whnf)
      | (refine LoadV.mem (i := 1) (by assumption) rfl rfl ?_; conv => whnf)
      | (refine LoadV.mem (i := 2) (by assumption) rfl rfl ?_; conv => whnf)
      | ((with_reducible refine Tst.beqT ?_))
      | ((with_reducible refine Tst.beqF ?_))
      | (refine Tst.yes rfl ?_; conv => whnf)
      | (refine Tst.no rfl ?_; conv => whnf)))
    refine CallV.of (h2 w1) ?_
    rintro v w2 ⟨rfl, he2⟩
    cases m2 : madeB s 4 4 false
    · (conv => whnf)
      (repeat' (first
      | (refine Obl.mk ⟨by omega, by omega⟩ ?_; conv => whnf)
      | (refine Obl.mk ⟨by omega, by omega, ⟨by omega, by omega⟩⟩ ?_; conv => whnf)
      | ((with_reducible refine Tst.tt ?_); conv => whnf)
      | ((with_reducible refine Tst.ff ?_); conv => whnf)
      | ((with_reducible refine Tst.dec (fun _ => ?_) (fun _ => ?_)) <;> first | (exfalso; omega) | (conv => whnf))
      | ((with_reducible refine Tst.not ?_))
      | (refine Wit.conv ⟨by omega, by omega⟩ ?_; conv => whnf)
      | ((with_reducible refine IdxV.nat (by omega) ?_); conv => whnf)
      | ((with_reducible refine SameW.mk rfl ?_); conv => whnf)
      | (refine LoadV.mem (i := 0) (by assumption) rfl rfl ?_; conv => whnf)
      | (refine LoadV.mem (i := 1) (by assumption) rfl rfl ?_; conv => whnf)
      | (refine LoadV.mem (i := 2) (by assumption) rfl rfl ?_; conv => whnf)
      | ((with_reducible refine Tst.beqT ?_))
      | ((with_reducible refine Tst.beqF ?_))
      | (refine Tst.yes rfl ?_; conv => whnf)
      | (refine Tst.no rfl ?_; conv => whnf)))
      exact ⟨by rw [varB, m1, m2]; rfl, he1.trans he2⟩
    · have hsz : s.size = 4 := by
        simp [madeB] at m2; omega
      (conv => whnf)
      (repeat' (first
      | (refine Obl.mk ⟨by omega, by omega⟩ ?_; conv => whnf)
      | (refine Obl.mk ⟨by omega, by omega, ⟨by omega, by omega⟩⟩ ?_; conv => whnf)
      | ((with_reducible refine Tst.tt ?_); conv => whnf)
      | ((with_reducible refine Tst.ff ?_); conv => whnf)
      | ((with_reducible refine Tst.dec (fun _ => ?_) (fun _ => ?_)) <;> first | (exfalso; omega) | (conv => whnf))
      | ((with_reducible refine Tst.not ?_))
      | (refine Wit.conv ⟨by omega, by omega⟩ ?_; conv => whnf)
      | ((with_reducible refine IdxV.nat (by omega) ?_); conv => whnf)
      | ((with_reducible refine SameW.mk rfl ?_); conv => whnf)
      | (refine LoadV.mem (i := 0) (by assumption) rfl rfl ?_; conv => whnf)
      | (refine LoadV.mem (i := 1) (by assumption) rfl rfl ?_; conv => whnf)
      | (refine LoadV.mem (i := 2) (by assumption) rfl rfl ?_; conv => whnf)
      | ((with_reducible refine Tst.beqT ?_))
      | ((with_reducible refine Tst.beqF ?_))
      | (refine Tst.yes rfl ?_; conv => whnf)
      | (refine Tst.no rfl ?_; conv => whnf)))
      refine ⟨0, rfl, by omega, ?_⟩
      (conv => whnf)
      (repeat' (first
      | (refine Obl.mk ⟨by omega, by omega⟩ ?_; conv => whnf)
      | (refine Obl.mk ⟨by omega, by omega, ⟨by omega, by omega⟩⟩ ?_; conv => whnf)
      | ((with_reducible refine Tst.tt ?_); conv => whnf)
      | ((with_reducible refine Tst.ff ?_); conv => whnf)
      | ((with_reducible refine Tst.dec (fun _ => ?_) (fun _ => ?_)) <;> first | (exfalso; omega) | (conv => whnf))
      | ((with_reducible refine Tst.not ?_))
      | (refine Wit.conv ⟨by omega, by omega⟩ ?_; conv => whnf)
      | ((with_reducible refine IdxV.nat (by omega) ?_); conv => whnf)
      | ((with_reducible refine SameW.mk rfl ?_); conv => whnf)
      | (refine LoadV.mem (i := 0) (by assumption) rfl rfl ?_; conv => whnf)
      | (refine LoadV.mem (i := 1) (by assumption) rfl rfl ?_; conv => whnf)
      | (refine LoadV.mem (i := 2) (by assumption) rfl rfl ?_; conv => whnf)
      | ((with_reducible refine Tst.beqT ?_))
      | ((with_reducible refine Tst.beqF ?_))
      | (refine Tst.yes rfl ?_; conv => whnf)
      | (refine Tst.no rfl ?_; conv => whnf)))
      refine ⟨((gb s 0).toNat : Int), wrap32 _, ?_⟩
      (conv => whnf)
      (repeat' (first
      | (refine Obl.mk ⟨by omega, by omega⟩ ?_; conv => whnf)
      | (refine Obl.mk ⟨by omega, by omega, ⟨by omega, by omega⟩⟩ ?_; conv => whnf)
      | ((with_reducible refine Tst.tt ?_); conv => whnf)
      | ((with_reducible refine Tst.ff ?_); conv => whnf)
      | ((with_reducible refine Tst.dec (fun _ => ?_) (fun _ => ?_)) <;> first | (exfalso; omega) | (conv => whnf))
      | ((with_reducible refine Tst.not ?_))
      | (refine Wit.conv ⟨by omega, by omega⟩ ?_; conv => whnf)
      | ((with_reducible refine IdxV.nat (by omega) ?_); conv => whnf)
      | ((with_reducible refine SameW.mk rfl ?_); conv => whnf)
      | (refine LoadV.mem (i := 0) (by assumption) rfl rfl ?_; conv => whnf)
      | (refine LoadV.mem (i := 1) (by assumption) rfl rfl ?_; conv => whnf)
      | (refine LoadV.mem (i := 2) (by assumption) rfl rfl ?_; conv => whnf)
      | ((with_reducible refine Tst.beqT ?_))
      | ((with_reducible refine Tst.beqF ?_))
      | (refine Tst.yes rfl ?_; conv => whnf)
      | (refine Tst.no rfl ?_; conv => whnf)))
      refine CallV.of (digit_any _ w2) ?_
      rintro v w3 ⟨rfl, rfl⟩
      (conv => whnf)
      (repeat' (first
      | (refine Obl.mk ⟨by omega, by omega⟩ ?_; conv => whnf)
      | (refine Obl.mk ⟨by omega, by omega, ⟨by omega, by omega⟩⟩ ?_; conv => whnf)
      | ((with_reducible refine Tst.tt ?_); conv => whnf)
      | ((with_reducible refine Tst.ff ?_); conv => whnf)
      | ((with_reducible refine Tst.dec (fun _ => ?_) (fun _ => ?_)) <;> first | (exfalso; omega) | (conv => whnf))
      | ((with_reducible refine Tst.not ?_))
      | (refine Wit.conv ⟨by omega, by omega⟩ ?_; conv => whnf)
      | ((with_reducible refine IdxV.nat (by omega) ?_); conv => whnf)
      | ((with_reducible refine SameW.mk rfl ?_); conv => whnf)
      | (refine LoadV.mem (i := 0) (by assumption) rfl rfl ?_; conv => whnf)
      | (refine LoadV.mem (i := 1) (by assumption) rfl rfl ?_; conv => whnf)
      | (refine LoadV.mem (i := 2) (by assumption) rfl rfl ?_; conv => whnf)
      | ((with_reducible refine Tst.beqT ?_))
      | ((with_reducible refine Tst.beqF ?_))
      | (refine Tst.yes rfl ?_; conv => whnf)
      | (refine Tst.no rfl ?_; conv => whnf)))
      exact ⟨by rw [varB, m1, m2]; rfl, he1.trans he2⟩
  · (conv => whnf)
    (repeat' (first
      | (refine Obl.mk ⟨by omega, by omega⟩ ?_; conv => whnf)
      | (refine Obl.mk ⟨by omega, by omega, ⟨by omega, by omega⟩⟩ ?_; conv => whnf)
      | ((with_reducible refine Tst.tt ?_); conv => whnf)
      | ((with_reducible refine Tst.ff ?_); conv => whnf)
      | ((with_reducible refine Tst.dec (fun _ => ?_) (fun _ => ?_)) <;> first | (exfalso; omega) | (conv => whnf))
      | ((with_reducible refine Tst.not ?_))
      | (refine Wit.conv ⟨by omega, by omega⟩ ?_; conv => whnf)
      | ((with_reducible refine IdxV.nat (by omega) ?_); conv => whnf)
      | ((with_reducible refine SameW.mk rfl ?_); conv => whnf)
      | (refine LoadV.mem (i := 0) (by assumption) rfl rfl ?_; conv => whnf)
      | (refine LoadV.mem (i := 1) (by assumption) rfl rfl ?_; conv => whnf)
      | (refine LoadV.mem (i := 2) (by assumption) rfl rfl ?_; conv => whnf)
      | ((with_reducible refine Tst.beqT ?_))
      | ((with_reducible refine Tst.beqF ?_))
      | (refine Tst.yes rfl ?_; conv => whnf)
      | (refine Tst.no rfl ?_; conv => whnf)))
    exact ⟨by rw [varB, m1]; rfl, he1⟩
theorem region_any (s : ByteArray) (hs : s.size ≤ 140737488355328) (w : World) : Gv Tryz.prog 261 [.string s] w fun v w' => v = .bool (regB s) ∧ Ext w w' := by
  have h1 := fun w => made_any s 2 2 true hs w
  refine gv (by kernel_rfl) Tryz.func261 rfl Tryz.ntmps261 rfl ?_; conv => whnf
  refine CallV.of (h1 w) ?_
  rintro v w1 ⟨rfl, he1⟩
  cases m1 : madeB s 2 2 true
  · (conv => whnf)
    (repeat' (first
      | (refine Obl.mk ⟨by omega, by omega⟩ ?_; conv => whnf)
      | (refine Obl.mk ⟨by omega, by omega, ⟨by omega, by omega⟩⟩ ?_; conv => whnf)
      | ((with_reducible refine Tst.tt ?_); conv => whnf)
      | ((with_reducible refine Tst.ff ?_); conv => whnf)
      | ((with_reducible refine Tst.dec (fun _ => ?_) (fun _ => ?_)) <;> first | (exfalso; omega) | (conv => whnf))
      | ((with_reducible refine Tst.not ?_))
      | (refine Wit.conv ⟨by omega, by omega⟩ ?_; conv => whnf)
      | ((with_reducible refine IdxV.nat (by omega) ?_); conv => whnf)
      | ((with_reducible refine SameW.mk rfl ?_); conv => whnf)
      | (refine LoadV.mem (i := 0) (by assumption) rfl rfl ?_; conv => whnf)
      | (refine LoadV.mem (i := 1) (by assumption) rfl rfl ?_; conv => whnf)
      | (refine LoadV.mem (i := 2) (by assumption) rfl rfl ?_; conv => whnf)
      | ((with_reducible refine Tst.beqT ?_))
      | ((with_reducible refine Tst.beqF ?_))
      | (refine Tst.yes rfl ?_; conv => whnf)
      | (refine Tst.no rfl ?_; conv => whnf)))
    · refine ⟨0, rfl, by omega, ?_⟩
      (conv => whnf)
      (repeat' (first
      | (refine Obl.mk ⟨by omega, by omega⟩ ?_; conv => whnf)
      | (refine Obl.mk ⟨by omega, by omega, ⟨by omega, by omega⟩⟩ ?_; conv => whnf)
      | ((with_reducible refine Tst.tt ?_); conv => whnf)
      | ((with_reducible refine Tst.ff ?_); conv => whnf)
      | ((with_reducible refine Tst.dec (fun _ => ?_) (fun _ => ?_)) <;> first | (exfalso; omega) | (conv => whnf))
      | ((with_reducible refine Tst.not ?_))
      | (refine Wit.conv ⟨by omega, by omega⟩ ?_; conv => whnf)
      | ((with_reducible refine IdxV.nat (by omega) ?_); conv => whnf)
      | ((with_reducible refine SameW.mk rfl ?_); conv => whnf)
      | (refine LoadV.mem (i := 0) (by assumption) rfl rfl ?_; conv => whnf)
      | (refine LoadV.mem (i := 1) (by assumption) rfl rfl ?_; conv => whnf)
      | (refine LoadV.mem (i := 2) (by assumption) rfl rfl ?_; conv => whnf)
      | ((with_reducible refine Tst.beqT ?_))
      | ((with_reducible refine Tst.beqF ?_))
      | (refine Tst.yes rfl ?_; conv => whnf)
      | (refine Tst.no rfl ?_; conv => whnf)))
      refine ⟨((gb s 0).toNat : Int), wrap32 _, ?_⟩
      (conv => whnf)
      (repeat' (first
      | (refine Obl.mk ⟨by omega, by omega⟩ ?_; conv => whnf)
      | (refine Obl.mk ⟨by omega, by omega, ⟨by omega, by omega⟩⟩ ?_; conv => whnf)
      | ((with_reducible refine Tst.tt ?_); conv => whnf)
      | ((with_reducible refine Tst.ff ?_); conv => whnf)
      | ((with_reducible refine Tst.dec (fun _ => ?_) (fun _ => ?_)) <;> first | (exfalso; omega) | (conv => whnf))
      | ((with_reducible refine Tst.not ?_))
      | (refine Wit.conv ⟨by omega, by omega⟩ ?_; conv => whnf)
      | ((with_reducible refine IdxV.nat (by omega) ?_); conv => whnf)
      | ((with_reducible refine SameW.mk rfl ?_); conv => whnf)
      | (refine LoadV.mem (i := 0) (by assumption) rfl rfl ?_; conv => whnf)
      | (refine LoadV.mem (i := 1) (by assumption) rfl rfl ?_; conv => whnf)
      | (refine LoadV.mem (i := 2) (by assumption) rfl rfl ?_; conv => whnf)
      | ((with_reducible refine Tst.beqT ?_))
      | ((with_reducible refine Tst.beqF ?_))
      | (refine Tst.yes rfl ?_; conv => whnf)
      | (refine Tst.no rfl ?_; conv => whnf)))
      refine CallV.of (digit_any _ w1) ?_
      rintro v w2 ⟨rfl, rfl⟩
      have h3 : decide (s.size = 3) = true := decide_eq_true (by omega)
      cases d0 : digN (gb s 0).toNat
      · (conv => whnf)
        (repeat' (first
      | (refine Obl.mk ⟨by omega, by omega⟩ ?_; conv => whnf)
      | (refine Obl.mk ⟨by omega, by omega, ⟨by omega, by omega⟩⟩ ?_; conv => whnf)
      | ((with_reducible refine Tst.tt ?_); conv => whnf)
      | ((with_reducible refine Tst.ff ?_); conv => whnf)
      | ((with_reducible refine Tst.dec (fun _ => ?_) (fun _ => ?_)) <;> first | (exfalso; omega) | (conv => whnf))
      | ((with_reducible refine Tst.not ?_))
      | (refine Wit.conv ⟨by omega, by omega⟩ ?_; conv => whnf)
      | ((with_reducible refine IdxV.nat (by omega) ?_); conv => whnf)
      | ((with_reducible refine SameW.mk rfl ?_); conv => whnf)
      | (refine LoadV.mem (i := 0) (by assumption) rfl rfl ?_; conv => whnf)
      | (refine LoadV.mem (i := 1) (by assumption) rfl rfl ?_; conv => whnf)
      | (refine LoadV.mem (i := 2) (by assumption) rfl rfl ?_; conv => whnf)
      | ((with_reducible refine Tst.beqT ?_))
      | ((with_reducible refine Tst.beqF ?_))
      | (refine Tst.yes rfl ?_; conv => whnf)
      | (refine Tst.no rfl ?_; conv => whnf)))
        exact ⟨by rw [regB, m1, d0, Bool.and_false]; rfl, he1⟩
      · (conv => whnf)
        (repeat' (first
      | (refine Obl.mk ⟨by omega, by omega⟩ ?_; conv => whnf)
      | (refine Obl.mk ⟨by omega, by omega, ⟨by omega, by omega⟩⟩ ?_; conv => whnf)
      | ((with_reducible refine Tst.tt ?_); conv => whnf)
      | ((with_reducible refine Tst.ff ?_); conv => whnf)
      | ((with_reducible refine Tst.dec (fun _ => ?_) (fun _ => ?_)) <;> first | (exfalso; omega) | (conv => whnf))
      | ((with_reducible refine Tst.not ?_))
      | (refine Wit.conv ⟨by omega, by omega⟩ ?_; conv => whnf)
      | ((with_reducible refine IdxV.nat (by omega) ?_); conv => whnf)
      | ((with_reducible refine SameW.mk rfl ?_); conv => whnf)
      | (refine LoadV.mem (i := 0) (by assumption) rfl rfl ?_; conv => whnf)
      | (refine LoadV.mem (i := 1) (by assumption) rfl rfl ?_; conv => whnf)
      | (refine LoadV.mem (i := 2) (by assumption) rfl rfl ?_; conv => whnf)
      | ((with_reducible refine Tst.beqT ?_))
      | ((with_reducible refine Tst.beqF ?_))
      | (refine Tst.yes rfl ?_; conv => whnf)
      | (refine Tst.no rfl ?_; conv => whnf)))
        refine ⟨1, rfl, by omega, ?_⟩
        (conv => whnf)
        (repeat' (first
      | (refine Obl.mk ⟨by omega, by omega⟩ ?_; conv => whnf)
      | (refine Obl.mk ⟨by omega, by omega, ⟨by omega, by omega⟩⟩ ?_; conv => whnf)
      | ((with_reducible refine Tst.tt ?_); conv => whnf)
      | ((with_reducible refine Tst.ff ?_); conv => whnf)
      | ((with_reducible refine Tst.dec (fun _ => ?_) (fun _ => ?_)) <;> first | (exfalso; omega) | (conv => whnf))
      | ((with_reducible refine Tst.not ?_))
      | (refine Wit.conv ⟨by omega, by omega⟩ ?_; conv => whnf)
      | ((with_reducible refine IdxV.nat (by omega) ?_); conv => whnf)
      | ((with_reducible refine SameW.mk rfl ?_); conv => whnf)
      | (refine LoadV.mem (i := 0) (by assumption) rfl rfl ?_; conv => whnf)
      | (refine LoadV.mem (i := 1) (by assumption) rfl rfl ?_; conv => whnf)
      | (refine LoadV.mem (i := 2) (by assumption) rfl rfl ?_; conv => whnf)
      | ((with_reducible refine Tst.beqT ?_))
      | ((with_reducible refine Tst.beqF ?_))
      | (refine Tst.yes rfl ?_; conv => whnf)
      | (refine Tst.no rfl ?_; conv => whnf)))
        refine ⟨((gb s 1).toNat : Int), wrap32 _, ?_⟩
        (conv => whnf)
        (repeat' (first
      | (refine Obl.mk ⟨by omega, by omega⟩ ?_; conv => whnf)
      | (refine Obl.mk ⟨by omega, by omega, ⟨by omega, by omega⟩⟩ ?_; conv => whnf)
      | ((with_reducible refine Tst.tt ?_); conv => whnf)
      | ((with_reducible refine Tst.ff ?_); conv => whnf)
      | ((with_reducible refine Tst.dec (fun _ => ?_) (fun _ => ?_)) <;> first | (exfalso; omega) | (conv => whnf))
      | ((with_reducible refine Tst.not ?_))
      | (refine Wit.conv ⟨by omega, by omega⟩ ?_; conv => whnf)
      | ((with_reducible refine IdxV.nat (by omega) ?_); conv => whnf)
      | ((with_reducible refine SameW.mk rfl ?_); conv => whnf)
      | (refine LoadV.mem (i := 0) (by assumption) rfl rfl ?_; conv => whnf)
      | (refine LoadV.mem (i := 1) (by assumption) rfl rfl ?_; conv => whnf)
      | (refine LoadV.mem (i := 2) (by assumption) rfl rfl ?_; conv => whnf)
      | ((with_reducible refine Tst.beqT ?_))
      | ((with_reducible refine Tst.beqF ?_))
      | (refine Tst.yes rfl ?_; conv => whnf)
      | (refine Tst.no rfl ?_; conv => whnf)))
        refine CallV.of (digit_any _ w2) ?_
        rintro v w3 ⟨rfl, rfl⟩
        cases d1 : digN (gb s 1).toNat
        · (conv => whnf)
          (repeat' (first
      | (refine Obl.mk ⟨by omega, by omega⟩ ?_; conv => whnf)
      | (refine Obl.mk ⟨by omega, by omega, ⟨by omega, by omega⟩⟩ ?_; conv => whnf)
      | ((with_reducible refine Tst.tt ?_); conv => whnf)
      | ((with_reducible refine Tst.ff ?_); conv => whnf)
      | ((with_reducible refine Tst.dec (fun _ => ?_) (fun _ => ?_)) <;> first | (exfalso; omega) | (conv => whnf))
      | ((with_reducible refine Tst.not ?_))
      | (refine Wit.conv ⟨by omega, by omega⟩ ?_; conv => whnf)
      | ((with_reducible refine IdxV.nat (by omega) ?_); conv => whnf)
      | ((with_reducible refine SameW.mk rfl ?_); conv => whnf)
      | (refine LoadV.mem (i := 0) (by assumption) rfl rfl ?_; conv => whnf)
      | (refine LoadV.mem (i := 1) (by assumption) rfl rfl ?_; conv => whnf)
      | (refine LoadV.mem (i := 2) (by assumption) rfl rfl ?_; conv => whnf)
      | ((with_reducible refine Tst.beqT ?_))
      | ((with_reducible refine Tst.beqF ?_))
      | (refine Tst.yes rfl ?_; conv => whnf)
      | (refine Tst.no rfl ?_; conv => whnf)))
          exact ⟨by rw [regB, m1, d1, Bool.and_false]; rfl, he1⟩
        · (conv => whnf)
          (repeat' (first
      | (refine Obl.mk ⟨by omega, by omega⟩ ?_; conv => whnf)
      | (refine Obl.mk ⟨by omega, by omega, ⟨by omega, by omega⟩⟩ ?_; conv => whnf)
      | ((with_reducible refine Tst.tt ?_); conv => whnf)
      | ((with_reducible refine Tst.ff ?_); conv => whnf)
      | ((with_reducible refine Tst.dec (fun _ => ?_) (fun _ => ?_)) <;> first | (exfalso; omega) | (conv => whnf))
      | ((with_reducible refine Tst.not ?_))
      | (refine Wit.conv ⟨by omega, by omega⟩ ?_; conv => whnf)
      | ((with_reducible refine IdxV.nat (by omega) ?_); conv => whnf)
      | ((with_reducible refine SameW.mk rfl ?_); conv => whnf)
      | (refine LoadV.mem (i := 0) (by assumption) rfl rfl ?_; conv => whnf)
      | (refine LoadV.mem (i := 1) (by assumption) rfl rfl ?_; conv => whnf)
      | (refine LoadV.mem (i := 2) (by assumption) rfl rfl ?_; conv => whnf)
      | ((with_reducible refine Tst.beqT ?_))
      | ((with_reducible refine Tst.beqF ?_))
      | (refine Tst.yes rfl ?_; conv => whnf)
      | (refine Tst.no rfl ?_; conv => whnf)))
          refine ⟨2, rfl, by omega, ?_⟩
          (conv => whnf)
          (repeat' (first
      | (refine Obl.mk ⟨by omega, by omega⟩ ?_; conv => whnf)
      | (refine Obl.mk ⟨by omega, by omega, ⟨by omega, by omega⟩⟩ ?_; conv => whnf)
      | ((with_reducible refine Tst.tt ?_); conv => whnf)
      | ((with_reducible refine Tst.ff ?_); conv => whnf)
      | ((with_reducible refine Tst.dec (fun _ => ?_) (fun _ => ?_)) <;> first | (exfalso; omega) | (conv => whnf))
      | ((with_reducible refine Tst.not ?_))
      | (refine Wit.conv ⟨by omega, by omega⟩ ?_; conv => whnf)
      | ((with_reducible refine IdxV.nat (by omega) ?_); conv => whnf)
      | ((with_reducible refine SameW.mk rfl ?_); conv => whnf)
      | (refine LoadV.mem (i := 0) (by assumption) rfl rfl ?_; conv => whnf)
      | (refine LoadV.mem (i := 1) (by assumption) rfl rfl ?_; conv => whnf)
      | (refine LoadV.mem (i := 2) (by assumption) rfl rfl ?_; conv => whnf)
      | ((with_reducible refine Tst.beqT ?_))
      | ((with_reducible refine Tst.beqF ?_))
      | (refine Tst.yes rfl ?_; conv => whnf)
      | (refine Tst.no rfl ?_; conv => whnf)))
          refine ⟨((gb s 2).toNat : Int), wrap32 _, ?_⟩
          (conv => whnf)
          (repeat' (first
      | (refine Obl.mk ⟨by omega, by omega⟩ ?_; conv => whnf)
      | (refine Obl.mk ⟨by omega, by omega, ⟨by omega, by omega⟩⟩ ?_; conv => whnf)
      | ((with_reducible refine Tst.tt ?_); conv => whnf)
      | ((with_reducible refine Tst.ff ?_); conv => whnf)
      | ((with_reducible refine Tst.dec (fun _ => ?_) (fun _ => ?_)) <;> first | (exfalso; omega) | (conv => whnf))
      | ((with_reducible refine Tst.not ?_))
      | (refine Wit.conv ⟨by omega, by omega⟩ ?_; conv => whnf)
      | ((with_reducible refine IdxV.nat (by omega) ?_); conv => whnf)
      | ((with_reducible refine SameW.mk rfl ?_); conv => whnf)
      | (refine LoadV.mem (i := 0) (by assumption) rfl rfl ?_; conv => whnf)
      | (refine LoadV.mem (i := 1) (by assumption) rfl rfl ?_; conv => whnf)
      | (refine LoadV.mem (i := 2) (by assumption) rfl rfl ?_; conv => whnf)
      | ((with_reducible refine Tst.beqT ?_))
      | ((with_reducible refine Tst.beqF ?_))
      | (refine Tst.yes rfl ?_; conv => whnf)
      | (refine Tst.no rfl ?_; conv => whnf)))
          refine CallV.of (digit_any _ w3) ?_
          rintro v w4 ⟨rfl, rfl⟩
          (conv => whnf)
          (repeat' (first
      | (refine Obl.mk ⟨by omega, by omega⟩ ?_; conv => whnf)
      | (refine Obl.mk ⟨by omega, by omega, ⟨by omega, by omega⟩⟩ ?_; conv => whnf)
      | ((with_reducible refine Tst.tt ?_); conv => whnf)
      | ((with_reducible refine Tst.ff ?_); conv => whnf)
      | ((with_reducible refine Tst.dec (fun _ => ?_) (fun _ => ?_)) <;> first | (exfalso; omega) | (conv => whnf))
      | ((with_reducible refine Tst.not ?_))
      | (refine Wit.conv ⟨by omega, by omega⟩ ?_; conv => whnf)
      | ((with_reducible refine IdxV.nat (by omega) ?_); conv => whnf)
      | ((with_reducible refine SameW.mk rfl ?_); conv => whnf)
      | (refine LoadV.mem (i := 0) (by assumption) rfl rfl ?_; conv => whnf)
      | (refine LoadV.mem (i := 1) (by assumption) rfl rfl ?_; conv => whnf)
      | (refine LoadV.mem (i := 2) (by assumption) rfl rfl ?_; conv => whnf)
      | ((with_reducible refine Tst.beqT ?_))
      | ((with_reducible refine Tst.beqF ?_))
      | (refine Tst.yes rfl ?_; conv => whnf)
      | (refine Tst.no rfl ?_; conv => whnf)))
          exact ⟨by rw [regB, m1, d0, d1, h3]; rfl, he1⟩
    · have h3 : decide (s.size = 3) = false := decide_eq_false (by omega)
      exact ⟨by rw [regB, m1, h3]; rfl, he1⟩
  · (conv => whnf)
    (repeat' (first
      | (refine Obl.mk ⟨by omega, by omega⟩ ?_; conv => whnf)
      | (refine Obl.mk ⟨by omega, by omega, ⟨by omega, by omega⟩⟩ ?_; conv => whnf)
      | ((with_reducible refine Tst.tt ?_); conv => whnf)
      | ((with_reducible refine Tst.ff ?_); conv => whnf)
      | ((with_reducible refine Tst.dec (fun _ => ?_) (fun _ => ?_)) <;> first | (exfalso; omega) | (conv => whnf))
      | ((with_reducible refine Tst.not ?_))
      | (refine Wit.conv ⟨by omega, by omega⟩ ?_; conv => whnf)
      | ((with_reducible refine IdxV.nat (by omega) ?_); conv => whnf)
      | ((with_reducible refine SameW.mk rfl ?_); conv => whnf)
      | (refine LoadV.mem (i := 0) (by assumption) rfl rfl ?_; conv => whnf)
      | (refine LoadV.mem (i := 1) (by assumption) rfl rfl ?_; conv => whnf)
      | (refine LoadV.mem (i := 2) (by assumption) rfl rfl ?_; conv => whnf)
      | ((with_reducible refine Tst.beqT ?_))
      | ((with_reducible refine Tst.beqF ?_))
      | (refine Tst.yes rfl ?_; conv => whnf)
      | (refine Tst.no rfl ?_; conv => whnf)))
    exact ⟨by rw [regB, m1]; rfl, he1⟩
end Go.Proofs.YtajgbepghniciaaGreatDoor
namespace Go.Proofs.YtajgbepghniciaaGreatDoor
open Go.RowKit V
set_option maxRecDepth 100000

def lowB (c : UInt8) : UInt8 := if 65 ≤ c.toNat ∧ c.toNat ≤ 90 then c + 32 else c
def lowS (s : ByteArray) : ByteArray := ⟨(s.data.toList.map lowB).toArray⟩
def lowAt (l : List UInt8) (i : Nat) (z : List Value) : Array Value := (byteCells ((l.take i).map lowB ++ l.drop i) ++ z).toArray
theorem lowAt_get {l : List UInt8} {i : Nat} {z : List Value} (h : i < l.length) : (lowAt l i z)[i]? = some (.int .u8 l[i].toNat) := by
  unfold lowAt byteCells
  rw [List.getElem?_toArray, List.getElem?_append_left (by simp; omega), List.getElem?_map, List.getElem?_append_right (by simp; omega)]
  simp [Nat.min_eq_left (Nat.le_of_lt h), h]
theorem lowAt_size (l : List UInt8) (i : Nat) (z : List Value) (h : i ≤ l.length) : (lowAt l i z).size = l.length + z.length := by
  simp [lowAt, byteCells]; omega
theorem lowAt_set {l : List UInt8} {i : Nat} {z : List Value} (h : i < l.length) : (lowAt l i z).setIfInBounds i (.int .u8 (lowB l[i]).toNat) = lowAt l (i + 1) z := by
  have e : byteCells ((l.take (i + 1)).map lowB ++ l.drop (i + 1)) ++ z = byteCells ((l.take i).map lowB) ++ (.int .u8 (lowB l[i]).toNat :: (byteCells (l.drop (i + 1)) ++ z)) := by
    rw [List.take_succ_eq_append_getElem h]
    simp only [byteCells, List.map_append, List.map_cons, List.map_nil, List.append_assoc, List.cons_append, List.nil_append]
  have e2 : byteCells ((l.take i).map lowB ++ l.drop i) ++ z = byteCells ((l.take i).map lowB) ++ (.int .u8 l[i].toNat :: (byteCells (l.drop (i + 1)) ++ z)) := by
    rw [List.drop_eq_getElem_cons h]
    simp only [byteCells, List.map_append, List.map_cons, List.append_assoc, List.cons_append]
  unfold lowAt
  rw [e, e2, List.setIfInBounds_toArray]
  congr 1
  have hl : (byteCells ((l.take i).map lowB)).length = i := by simp [byteCells]; omega
  rw [List.set_append_right _ _ (by omega), hl, Nat.sub_self]
  rfl
theorem lowAt_same {l : List UInt8} {i : Nat} {z : List Value} (h : i < l.length) (hs : lowB l[i] = l[i]) : lowAt l i z = lowAt l (i + 1) z := by
  unfold lowAt
  rw [List.take_succ_eq_append_getElem h, List.drop_eq_getElem_cons h]
  simp only [byteCells, List.map_append, List.map_cons, List.map_nil, List.append_assoc, List.cons_append, List.nil_append, hs]
theorem lowB_add (c : UInt8) (h : 65 ≤ c.toNat ∧ c.toNat ≤ 90) : ((lowB c).toNat : Int) = (c.toNat : Int) + 32 := by
  rw [lowB, if_pos h, UInt8.toNat_add]
  have : (32 : UInt8).toNat = 32 := rfl
  omega
theorem lowB_no (c : UInt8) (h : ¬ (65 ≤ c.toNat ∧ c.toNat ≤ 90)) : lowB c = c := by rw [lowB, if_neg h]
theorem V.StoreV.memF {w0 w : World} {L : List (Nat × Obj)} {i b off m : Nat} {cs : Array Value} {t : TypeId} {v : Value} {K : World → Prop} (h : Mem w0 w L) (hi : L[i]? = some (b, .cells cs t (m, m + 1)))
    (ho : off < cs.size) (hom : off < m) (h1 : oneCell v = true) (hk : ∀ w', Mem w0 w' (L.set i (b, .cells (cs.setIfInBounds off v) t (m, m + 1))) → K w') : StoreV w b off v K := by
  have hg := h.get (List.mem_of_getElem? hi)
  refine ⟨⟨cs[off], ?_⟩, ?_, h1, hk _ (h.setCell hi rfl)⟩
  · rw [cell_heap hg]; exact Array.getElem?_eq_getElem ho
  · simp [World.frozen?, hg]; omega
theorem lowAt_end (w : World) {w0 : World} {s : ByteArray} {b m : Nat} {z : List Value} {t : TypeId} {L : List (Nat × Obj)} {K : Value → Prop} (hm : Mem w0 w ((b, .cells (lowAt s.data.toList s.size z) t (m, m + 1)) :: L)) (hk : K (.string (lowS s))) : BytesS w (some ⟨b, 0, none⟩) s.size K := by
  refine ⟨s.data.toList.map lowB, by simp, fun _ => ⟨b, 0, rfl, fun k v hv => ?_⟩, hk⟩
  rw [cell_heap (hm.get (List.mem_cons_self ..)), Nat.zero_add]
  have e : (lowAt s.data.toList s.size z) = (byteCells (s.data.toList.map lowB) ++ z).toArray := by
    unfold lowAt
    rw [List.take_of_length_le (by simp), List.drop_eq_nil_of_le (by simp), List.append_nil]
  rw [e, List.getElem?_toArray, List.getElem?_append_left (List.getElem?_eq_some_iff.1 hv).1]
  exact hv
theorem lower_any (s : ByteArray) (hs : s.size ≤ 140737488355328) (w : World) : Gv Tryz.prog 149 [.string s] w fun v w' => v = .string (lowS s) ∧ Ext w w' := by
  have hsz : s.data.toList.length = s.size := by simp
  refine gv (by kernel_rfl) Tryz.func149 rfl Tryz.ntmps149 rfl ?_; conv => whnf
  refine ⟨fun cap cs b w1 hcap hcs hb hw1 => ?_⟩
  obtain ⟨z, hz⟩ : ∃ z, z = List.replicate (cap - s.size) (Value.int .u8 0) := ⟨_, rfl⟩
  obtain ⟨m, hmm⟩ : ∃ m, m = cs.size := ⟨_, rfl⟩
  have hms : s.size ≤ m := by rw [hmm, hcs]; simp [byteCells]
  have hm : Mem w w1 [(b, .cells (lowAt s.data.toList 0 z) 5 (m, m + 1))] := by
    rw [hmm]
    have e : lowAt s.data.toList 0 z = cs := by rw [hcs, hz]; simp [lowAt]
    rw [e]
    exact (Mem.nil w).drew.new hb hw1
  clear hcs hb hw1 hmm hz
  (conv => whnf)
  refine loopV (fun i : Nat => [(3, .slice (some ⟨b, 0, none⟩) s.size cap), (8, .slice (some ⟨b, 0, none⟩) s.size cap), (9, .int .i64 s.size), (10, .int .i64 i)]) (fun i w2 => i ≤ s.size ∧ Mem w w2 [(b, .cells (lowAt s.data.toList i z) 5 (m, m + 1))]) (fun i => s.size - i) 0 ⟨rfl, rfl, rfl, rfl, trivial⟩ ⟨by omega, hm⟩ ?_
  rintro i w2 ρ' ⟨h1, hm⟩
  (conv => whnf)
  (repeat' (first
      | (refine Obl.mk ⟨by omega, by omega⟩ ?_; conv => whnf)
      | (refine Obl.mk ⟨by omega, by omega, ⟨by omega, by omega⟩⟩ ?_; conv => whnf)
      | ((with_reducible refine Tst.tt ?_); conv => whnf)
      | ((with_reducible refine Tst.ff ?_); conv => whnf)
      | ((with_reducible refine Tst.dec (fun _ => ?_) (fun _ => ?_)) <;> first | (exfalso; omega) | (conv => whnf))
      | ((with_reducible refine Tst.not ?_))
      | (refine Wit.conv ⟨by omega, by omega⟩ ?_; conv => whnf)
      | ((with_reducible refine IdxV.nat (by omega) ?_); conv => whnf)
      | ((with_reducible refine SameW.mk rfl ?_); conv => whnf)
      | (refine LoadV.mem (i := 0) (by assumption) rfl rfl ?_; conv => whnf)
      | (refine LoadV.mem (i := 1) (by assumption) rfl rfl ?_; conv => whnf)
      | (refine LoadV.mem (i := 2) (by assumption) rfl rfl ?_; conv => whnf)
      | ((with_reducible refine Tst.beqT ?_))
      | ((with_reducible refine Tst.beqF ?_))
      | (refine Tst.yes rfl ?_; conv => whnf)
      | (refine Tst.no rfl ?_; conv => whnf)))
  · have hi : i < s.data.toList.length := by omega
    refine ElemV.own1 i rfl (by omega) ?_
    (conv => whnf)
    refine LoadV.mem hm (i := 0) rfl (lowAt_get hi) ?_
    (conv => whnf)
    (repeat' (first
      | (refine Obl.mk ⟨by omega, by omega⟩ ?_; conv => whnf)
      | (refine Obl.mk ⟨by omega, by omega, ⟨by omega, by omega⟩⟩ ?_; conv => whnf)
      | ((with_reducible refine Tst.tt ?_); conv => whnf)
      | ((with_reducible refine Tst.ff ?_); conv => whnf)
      | ((with_reducible refine Tst.dec (fun _ => ?_) (fun _ => ?_)) <;> first | (exfalso; omega) | (conv => whnf))
      | ((with_reducible refine Tst.not ?_))
      | (refine Wit.conv ⟨by omega, by omega⟩ ?_; conv => whnf)
      | ((with_reducible refine IdxV.nat (by omega) ?_); conv => whnf)
      | ((with_reducible refine SameW.mk rfl ?_); conv => whnf)
      | (refine LoadV.mem (i := 0) (by assumption) rfl rfl ?_; conv => whnf)
      | (refine LoadV.mem (i := 1) (by assumption) rfl rfl ?_; conv => whnf)
      | (refine LoadV.mem (i := 2) (by assumption) rfl rfl ?_; conv => whnf)
      | ((with_reducible refine Tst.beqT ?_))
      | ((with_reducible refine Tst.beqF ?_))
      | (refine Tst.yes rfl ?_; conv => whnf)
      | (refine Tst.no rfl ?_; conv => whnf)))
    · refine ElemV.own1 i rfl (by omega) ?_
      (conv => whnf)
      (repeat' (first
      | (refine Obl.mk ⟨by omega, by omega⟩ ?_; conv => whnf)
      | (refine Obl.mk ⟨by omega, by omega, ⟨by omega, by omega⟩⟩ ?_; conv => whnf)
      | ((with_reducible refine Tst.tt ?_); conv => whnf)
      | ((with_reducible refine Tst.ff ?_); conv => whnf)
      | ((with_reducible refine Tst.dec (fun _ => ?_) (fun _ => ?_)) <;> first | (exfalso; omega) | (conv => whnf))
      | ((with_reducible refine Tst.not ?_))
      | (refine Wit.conv ⟨by omega, by omega⟩ ?_; conv => whnf)
      | ((with_reducible refine IdxV.nat (by omega) ?_); conv => whnf)
      | ((with_reducible refine SameW.mk rfl ?_); conv => whnf)
      | (refine LoadV.mem (i := 0) (by assumption) rfl rfl ?_; conv => whnf)
      | (refine LoadV.mem (i := 1) (by assumption) rfl rfl ?_; conv => whnf)
      | (refine LoadV.mem (i := 2) (by assumption) rfl rfl ?_; conv => whnf)
      | ((with_reducible refine Tst.beqT ?_))
      | ((with_reducible refine Tst.beqF ?_))
      | (refine Tst.yes rfl ?_; conv => whnf)
      | (refine Tst.no rfl ?_; conv => whnf)))
      refine StoreV.memF (v := .int .u8 ((s.data.toList[i].toNat : Int) + 32)) hm (i := 0) rfl (by rw [lowAt_size _ _ _ (by omega)]; omega) (by omega) rfl ?_
      intro w3 hm3
      replace hm3 : Mem w w3 [(b, .cells ((lowAt s.data.toList i z).setIfInBounds i (.int .u8 ((s.data.toList[i].toNat : Int) + 32))) 5 (m, m + 1))] := hm3
      rw [← lowB_add _ ⟨by omega, by omega⟩, lowAt_set hi] at hm3
      (conv => whnf)
      (repeat' (first
      | (refine Obl.mk ⟨by omega, by omega⟩ ?_; conv => whnf)
      | (refine Obl.mk ⟨by omega, by omega, ⟨by omega, by omega⟩⟩ ?_; conv => whnf)
      | ((with_reducible refine Tst.tt ?_); conv => whnf)
      | ((with_reducible refine Tst.ff ?_); conv => whnf)
      | ((with_reducible refine Tst.dec (fun _ => ?_) (fun _ => ?_)) <;> first | (exfalso; omega) | (conv => whnf))
      | ((with_reducible refine Tst.not ?_))
      | (refine Wit.conv ⟨by omega, by omega⟩ ?_; conv => whnf)
      | ((with_reducible refine IdxV.nat (by omega) ?_); conv => whnf)
      | ((with_reducible refine SameW.mk rfl ?_); conv => whnf)
      | (refine LoadV.mem (i := 0) (by assumption) rfl rfl ?_; conv => whnf)
      | (refine LoadV.mem (i := 1) (by assumption) rfl rfl ?_; conv => whnf)
      | (refine LoadV.mem (i := 2) (by assumption) rfl rfl ?_; conv => whnf)
      | ((with_reducible refine Tst.beqT ?_))
      | ((with_reducible refine Tst.beqF ?_))
      | (refine Tst.yes rfl ?_; conv => whnf)
      | (refine Tst.no rfl ?_; conv => whnf)))
      exact ⟨i + 1, ⟨rfl, rfl, rfl, rfl, trivial⟩, ⟨by omega, hm3⟩, by omega⟩
    all_goals
      rw [lowAt_same hi (lowB_no _ (by omega))] at hm
      exact ⟨i + 1, ⟨rfl, rfl, rfl, rfl, trivial⟩, ⟨by omega, hm⟩, by omega⟩
  · refine lowAt_end w2 (by rw [show i = s.size by omega] at hm; exact hm) ?_
    (conv => whnf)
    exact ⟨rfl, hm.ext⟩
theorem refLower_any (s : ByteArray) (hs : s.size ≤ 140737488355328) (w : World) : Gv Tryz.prog 268 [.string s] w fun v w' => v = .string (lowS s) ∧ Ext w w' := by
  have hsz : s.data.toList.length = s.size := by simp
  refine gv (by kernel_rfl) Tryz.func268 rfl Tryz.ntmps268 rfl ?_; conv => whnf
  refine ⟨fun cap cs b w1 hcap hcs hb hw1 => ?_⟩
  obtain ⟨z, hz⟩ : ∃ z, z = List.replicate (cap - s.size) (Value.int .u8 0) := ⟨_, rfl⟩
  obtain ⟨m, hmm⟩ : ∃ m, m = cs.size := ⟨_, rfl⟩
  have hms : s.size ≤ m := by rw [hmm, hcs]; simp [byteCells]
  have hm : Mem w w1 [(b, .cells (lowAt s.data.toList 0 z) 5 (m, m + 1))] := by
    rw [hmm]
    have e : lowAt s.data.toList 0 z = cs := by rw [hcs, hz]; simp [lowAt]
    rw [e]
    exact (Mem.nil w).drew.new hb hw1
  clear hcs hb hw1 hmm hz
  (conv => whnf)
  refine loopV (fun i : Nat => [(3, .slice (some ⟨b, 0, none⟩) s.size cap), (4, .int .i64 i)]) (fun i w2 => i ≤ s.size ∧ Mem w w2 [(b, .cells (lowAt s.data.toList i z) 5 (m, m + 1))]) (fun i => s.size - i) 0 ⟨rfl, rfl, trivial⟩ ⟨by omega, hm⟩ ?_
  rintro i w2 ρ' ⟨h1, hm⟩
  (conv => whnf)
  (repeat' (first
      | (refine Obl.mk ⟨by omega, by omega⟩ ?_; conv => whnf)
      | (refine Obl.mk ⟨by omega, by omega, ⟨by omega, by omega⟩⟩ ?_; conv => whnf)
      | ((with_reducible refine Tst.tt ?_); conv => whnf)
      | ((with_reducible refine Tst.ff ?_); conv => whnf)
      | ((with_reducible refine Tst.dec (fun _ => ?_) (fun _ => ?_)) <;> first | (exfalso; omega) | (conv => whnf))
      | ((with_reducible refine Tst.not ?_))
      | (refine Wit.conv ⟨by omega, by omega⟩ ?_; conv => whnf)
      | ((with_reducible refine IdxV.nat (by omega) ?_); conv => whnf)
      | ((with_reducible refine SameW.mk rfl ?_); conv => whnf)
      | (refine LoadV.mem (i := 0) (by assumption) rfl rfl ?_; conv => whnf)
      | (refine LoadV.mem (i := 1) (by assumption) rfl rfl ?_; conv => whnf)
      | (refine LoadV.mem (i := 2) (by assumption) rfl rfl ?_; conv => whnf)
      | ((with_reducible refine Tst.beqT ?_))
      | ((with_reducible refine Tst.beqF ?_))
      | (refine Tst.yes rfl ?_; conv => whnf)
      | (refine Tst.no rfl ?_; conv => whnf)))
  · have hi : i < s.data.toList.length := by omega
    refine ElemV.own1 i rfl (by omega) ?_
    (conv => whnf)
    refine LoadV.mem hm (i := 0) rfl (lowAt_get hi) ?_
    (conv => whnf)
    (repeat' (first
      | (refine Obl.mk ⟨by omega, by omega⟩ ?_; conv => whnf)
      | (refine Obl.mk ⟨by omega, by omega, ⟨by omega, by omega⟩⟩ ?_; conv => whnf)
      | ((with_reducible refine Tst.tt ?_); conv => whnf)
      | ((with_reducible refine Tst.ff ?_); conv => whnf)
      | ((with_reducible refine Tst.dec (fun _ => ?_) (fun _ => ?_)) <;> first | (exfalso; omega) | (conv => whnf))
      | ((with_reducible refine Tst.not ?_))
      | (refine Wit.conv ⟨by omega, by omega⟩ ?_; conv => whnf)
      | ((with_reducible refine IdxV.nat (by omega) ?_); conv => whnf)
      | ((with_reducible refine SameW.mk rfl ?_); conv => whnf)
      | (refine LoadV.mem (i := 0) (by assumption) rfl rfl ?_; conv => whnf)
      | (refine LoadV.mem (i := 1) (by assumption) rfl rfl ?_; conv => whnf)
      | (refine LoadV.mem (i := 2) (by assumption) rfl rfl ?_; conv => whnf)
      | ((with_reducible refine Tst.beqT ?_))
      | ((with_reducible refine Tst.beqF ?_))
      | (refine Tst.yes rfl ?_; conv => whnf)
      | (refine Tst.no rfl ?_; conv => whnf)))
    · refine ElemV.own1 i rfl (by omega) ?_
      (conv => whnf)
      (repeat' (first
      | (refine Obl.mk ⟨by omega, by omega⟩ ?_; conv => whnf)
      | (refine Obl.mk ⟨by omega, by omega, ⟨by omega, by omega⟩⟩ ?_; conv => whnf)
      | ((with_reducible refine Tst.tt ?_); conv => whnf)
      | ((with_reducible refine Tst.ff ?_); conv => whnf)
      | ((with_reducible refine Tst.dec (fun _ => ?_) (fun _ => ?_)) <;> first | (exfalso; omega) | (conv => whnf))
      | ((with_reducible refine Tst.not ?_))
      | (refine Wit.conv ⟨by omega, by omega⟩ ?_; conv => whnf)
      | ((with_reducible refine IdxV.nat (by omega) ?_); conv => whnf)
      | ((with_reducible refine SameW.mk rfl ?_); conv => whnf)
      | (refine LoadV.mem (i := 0) (by assumption) rfl rfl ?_; conv => whnf)
      | (refine LoadV.mem (i := 1) (by assumption) rfl rfl ?_; conv => whnf)
      | (refine LoadV.mem (i := 2) (by assumption) rfl rfl ?_; conv => whnf)
      | ((with_reducible refine Tst.beqT ?_))
      | ((with_reducible refine Tst.beqF ?_))
      | (refine Tst.yes rfl ?_; conv => whnf)
      | (refine Tst.no rfl ?_; conv => whnf)))
      refine LoadV.mem hm (i := 0) rfl (lowAt_get hi) ?_
      (conv => whnf)
      (repeat' (first
      | (refine Obl.mk ⟨by omega, by omega⟩ ?_; conv => whnf)
      | (refine Obl.mk ⟨by omega, by omega, ⟨by omega, by omega⟩⟩ ?_; conv => whnf)
      | ((with_reducible refine Tst.tt ?_); conv => whnf)
      | ((with_reducible refine Tst.ff ?_); conv => whnf)
      | ((with_reducible refine Tst.dec (fun _ => ?_) (fun _ => ?_)) <;> first | (exfalso; omega) | (conv => whnf))
      | ((with_reducible refine Tst.not ?_))
      | (refine Wit.conv ⟨by omega, by omega⟩ ?_; conv => whnf)
      | ((with_reducible refine IdxV.nat (by omega) ?_); conv => whnf)
      | ((with_reducible refine SameW.mk rfl ?_); conv => whnf)
      | (refine LoadV.mem (i := 0) (by assumption) rfl rfl ?_; conv => whnf)
      | (refine LoadV.mem (i := 1) (by assumption) rfl rfl ?_; conv => whnf)
      | (refine LoadV.mem (i := 2) (by assumption) rfl rfl ?_; conv => whnf)
      | ((with_reducible refine Tst.beqT ?_))
      | ((with_reducible refine Tst.beqF ?_))
      | (refine Tst.yes rfl ?_; conv => whnf)
      | (refine Tst.no rfl ?_; conv => whnf)))
      · refine ElemV.own1 i rfl (by omega) ?_
        (conv => whnf)
        (repeat' (first
      | (refine Obl.mk ⟨by omega, by omega⟩ ?_; conv => whnf)
      | (refine Obl.mk ⟨by omega, by omega, ⟨by omega, by omega⟩⟩ ?_; conv => whnf)
      | ((with_reducible refine Tst.tt ?_); conv => whnf)
      | ((with_reducible refine Tst.ff ?_); conv => whnf)
      | ((with_reducible refine Tst.dec (fun _ => ?_) (fun _ => ?_)) <;> first | (exfalso; omega) | (conv => whnf))
      | ((with_reducible refine Tst.not ?_))
      | (refine Wit.conv ⟨by omega, by omega⟩ ?_; conv => whnf)
      | ((with_reducible refine IdxV.nat (by omega) ?_); conv => whnf)
      | ((with_reducible refine SameW.mk rfl ?_); conv => whnf)
      | (refine LoadV.mem (i := 0) (by assumption) rfl rfl ?_; conv => whnf)
      | (refine LoadV.mem (i := 1) (by assumption) rfl rfl ?_; conv => whnf)
      | (refine LoadV.mem (i := 2) (by assumption) rfl rfl ?_; conv => whnf)
      | ((with_reducible refine Tst.beqT ?_))
      | ((with_reducible refine Tst.beqF ?_))
      | (refine Tst.yes rfl ?_; conv => whnf)
      | (refine Tst.no rfl ?_; conv => whnf)))
        refine LoadV.mem hm (i := 0) rfl (lowAt_get hi) ?_
        (conv => whnf)
        (repeat' (first
      | (refine Obl.mk ⟨by omega, by omega⟩ ?_; conv => whnf)
      | (refine Obl.mk ⟨by omega, by omega, ⟨by omega, by omega⟩⟩ ?_; conv => whnf)
      | ((with_reducible refine Tst.tt ?_); conv => whnf)
      | ((with_reducible refine Tst.ff ?_); conv => whnf)
      | ((with_reducible refine Tst.dec (fun _ => ?_) (fun _ => ?_)) <;> first | (exfalso; omega) | (conv => whnf))
      | ((with_reducible refine Tst.not ?_))
      | (refine Wit.conv ⟨by omega, by omega⟩ ?_; conv => whnf)
      | ((with_reducible refine IdxV.nat (by omega) ?_); conv => whnf)
      | ((with_reducible refine SameW.mk rfl ?_); conv => whnf)
      | (refine LoadV.mem (i := 0) (by assumption) rfl rfl ?_; conv => whnf)
      | (refine LoadV.mem (i := 1) (by assumption) rfl rfl ?_; conv => whnf)
      | (refine LoadV.mem (i := 2) (by assumption) rfl rfl ?_; conv => whnf)
      | ((with_reducible refine Tst.beqT ?_))
      | ((with_reducible refine Tst.beqF ?_))
      | (refine Tst.yes rfl ?_; conv => whnf)
      | (refine Tst.no rfl ?_; conv => whnf)))
        refine ElemV.own1 i rfl (by omega) ?_
        (conv => whnf)
        (repeat' (first
      | (refine Obl.mk ⟨by omega, by omega⟩ ?_; conv => whnf)
      | (refine Obl.mk ⟨by omega, by omega, ⟨by omega, by omega⟩⟩ ?_; conv => whnf)
      | ((with_reducible refine Tst.tt ?_); conv => whnf)
      | ((with_reducible refine Tst.ff ?_); conv => whnf)
      | ((with_reducible refine Tst.dec (fun _ => ?_) (fun _ => ?_)) <;> first | (exfalso; omega) | (conv => whnf))
      | ((with_reducible refine Tst.not ?_))
      | (refine Wit.conv ⟨by omega, by omega⟩ ?_; conv => whnf)
      | ((with_reducible refine IdxV.nat (by omega) ?_); conv => whnf)
      | ((with_reducible refine SameW.mk rfl ?_); conv => whnf)
      | (refine LoadV.mem (i := 0) (by assumption) rfl rfl ?_; conv => whnf)
      | (refine LoadV.mem (i := 1) (by assumption) rfl rfl ?_; conv => whnf)
      | (refine LoadV.mem (i := 2) (by assumption) rfl rfl ?_; conv => whnf)
      | ((with_reducible refine Tst.beqT ?_))
      | ((with_reducible refine Tst.beqF ?_))
      | (refine Tst.yes rfl ?_; conv => whnf)
      | (refine Tst.no rfl ?_; conv => whnf)))
        refine StoreV.memF (v := .int .u8 ((s.data.toList[i].toNat : Int) + 32)) hm (i := 0) rfl (by rw [lowAt_size _ _ _ (by omega)]; omega) (by omega) rfl ?_
        intro w3 hm3
        replace hm3 : Mem w w3 [(b, .cells ((lowAt s.data.toList i z).setIfInBounds i (.int .u8 ((s.data.toList[i].toNat : Int) + 32))) 5 (m, m + 1))] := hm3
        rw [← lowB_add _ ⟨by omega, by omega⟩, lowAt_set hi] at hm3
        (conv => whnf)
        (repeat' (first
      | (refine Obl.mk ⟨by omega, by omega⟩ ?_; conv => whnf)
      | (refine Obl.mk ⟨by omega, by omega, ⟨by omega, by omega⟩⟩ ?_; conv => whnf)
      | ((with_reducible refine Tst.tt ?_); conv => whnf)
      | ((with_reducible refine Tst.ff ?_); conv => whnf)
      | ((with_reducible refine Tst.dec (fun _ => ?_) (fun _ => ?_)) <;> first | (exfalso; omega) | (conv => whnf))
      | ((with_reducible refine Tst.not ?_))
      | (refine Wit.conv ⟨by omega, by omega⟩ ?_; conv => whnf)
      | ((with_reducible refine IdxV.nat (by omega) ?_); conv => whnf)
      | ((with_reducible refine SameW.mk rfl ?_); conv => whnf)
      | (refine LoadV.mem (i := 0) (by assumption) rfl rfl ?_; conv => whnf)
      | (refine LoadV.mem (i := 1) (by assumption) rfl rfl ?_; conv => whnf)
      | (refine LoadV.mem (i := 2) (by assumption) rfl rfl ?_; conv => whnf)
      | ((with_reducible refine Tst.beqT ?_))
      | ((with_reducible refine Tst.beqF ?_))
      | (refine Tst.yes rfl ?_; conv => whnf)
      | (refine Tst.no rfl ?_; conv => whnf)))
        exact ⟨i + 1, ⟨rfl, rfl, trivial⟩, ⟨by omega, hm3⟩, by omega⟩
      all_goals
        rw [lowAt_same hi (lowB_no _ (by omega))] at hm
        exact ⟨i + 1, ⟨rfl, rfl, trivial⟩, ⟨by omega, hm⟩, by omega⟩
    all_goals
      rw [lowAt_same hi (lowB_no _ (by omega))] at hm
      exact ⟨i + 1, ⟨rfl, rfl, trivial⟩, ⟨by omega, hm⟩, by omega⟩
  · refine lowAt_end w2 (by rw [show i = s.size by omega] at hm; exact hm) ?_
    (conv => whnf)
    exact ⟨rfl, hm.ext⟩
end Go.Proofs.YtajgbepghniciaaGreatDoor
