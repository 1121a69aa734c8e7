/- term: an IRI looked over. -/
import Derived.Test.YtajgbepghniciaaGreatDoorIri
namespace Go.Proofs.YtajgbepghniciaaGreatDoor
open Go.RowKit V
set_option maxRecDepth 100000

def es : ByteArray := ⟨#[]⟩
/-- the value of an IRI as a term -/
def iriV (s : ByteArray) : Value := .agg #[.int .i64 1, .string s, .string ⟨#[]⟩, .string ⟨#[]⟩]

theorem termCheck_iri (s : ByteArray) (hs : s.size ≤ 140737488355328) (w : World) :
    Gv Tryz.prog 47 [.agg #[.int .i64 1, .string s, .string ⟨#[]⟩, .string ⟨#[]⟩]] w fun v w' => v = .int .i64 (iriE s) ∧ Ext w w' := by
  refine gv (by kernel_rfl) Tryz.func47 rfl Tryz.ntmps47 rfl ?_; conv => whnf
  refine NewV.mem (Mem.nil w) ?_
  intro b w1 hm
  (conv => whnf)
  (repeat' (first
      | (refine Obl.mk ⟨by omega, by omega⟩ ?_; conv => whnf)
      | (refine Obl.mk ⟨by omega, by omega, ⟨by omega, by omega⟩⟩ ?_; conv => whnf)
      | ((with_reducible refine Tst.tt ?_); conv => whnf)
      | ((with_reducible refine Tst.ff ?_); conv => whnf)
      | ((with_reducible refine Tst.dec (fun _ => ?_) (fun _ => ?_)) <;> first | (exfalso; omega) | (conv => whnf))
      | ((with_reducible refine Tst.not ?_))
      | (refine Wit.conv ⟨by omega, by omega⟩ ?_; conv => whnf)
      | ((with_reducible refine IdxV.nat (by omega) ?_); conv => whnf)
      | ((with_reducible refine SameW.mk rfl ?_); conv => whnf)
      | (refine LoadV.mem (i := 0) (by assumption) rfl rfl ?_; conv => whnf)
      | (refine LoadV.mem (i := 1) (by assumption) rfl rfl ?_; conv => whnf)
      | (refine LoadV.mem (i := 2) (by assumption) rfl rfl ?_; conv => whnf)
      | ((with_reducible refine Tst.beqT ?_))
      | ((with_reducible refine Tst.beqF ?_))
      | (refine Tst.yes rfl ?_; conv => whnf)
      | (refine Tst.no rfl ?_; conv => whnf)))
  refine CallV.of (iriCheck_any s hs _) ?_
  rintro v w2 ⟨rfl, he⟩
  (conv => whnf)
  exact ⟨rfl, hm.ext.trans he⟩

theorem wellFormed_any (s : ByteArray) (hs : s.size ≤ 140737488355328) (w : World) :
    Gv Tryz.prog 76 [.string s] w fun v w' => v = .bool (decide (iriE s = 0)) ∧ Ext w w' := by
  refine gv (by kernel_rfl) Tryz.func76 rfl Tryz.ntmps76 rfl ?_; conv => whnf
  refine CallV.of (termCheck_iri s hs _) ?_
  rintro v w2 ⟨rfl, he⟩
  (conv => whnf)
  exact ⟨congrArg Value.bool (by rw [Bool.eq_iff_iff]; simp), he⟩

/-- IRIs that are well formed and rise -/
def ListedP (l : List ByteArray) : Prop := ∀ i (h : i < l.length), iriE l[i] = 0 ∧ (∀ _ : 0 < i, slt l[i - 1] l[i] = true)
theorem listed_any (l : List ByteArray) (A : Option Addr) (c : Nat) (w : World) (hA : SlAt encS 1 w A l) (hl : l.length ≤ 140737488355328) (hs : ∀ s ∈ l, s.size ≤ 140737488355328) :
    Gv Tryz.prog 77 [.slice A l.length c] w fun v w' => (∃ b, v = .bool b ∧ (b = true ↔ ListedP l)) ∧ Ext w w' := by
  refine gv (by kernel_rfl) Tryz.func77 rfl Tryz.ntmps77 rfl ?_; conv => whnf
  refine loopV (fun pos : Nat => [(0, .slice A l.length c), (5, .slice A l.length c), (6, .int .i64 l.length), (7, .int .i64 pos)])
    (fun pos w2 => pos ≤ l.length ∧ Ext w w2 ∧ ∀ i (h : i < l.length), i < pos → iriE l[i] = 0 ∧ (∀ _ : 0 < i, slt l[i - 1] l[i] = true)) (fun pos => l.length - pos) 0 ⟨rfl, rfl, rfl, rfl, trivial⟩ ⟨by omega, Ext.refl _, fun i h h' => by omega⟩ ?_
  rintro pos w2 ρ' ⟨hp, he, ha⟩
  have hA2 := hA.ext he
  (conv => whnf)
  (repeat' (first
      | (refine Obl.mk ⟨by omega, by omega⟩ ?_; conv => whnf)
      | (refine Obl.mk ⟨by omega, by omega, ⟨by omega, by omega⟩⟩ ?_; conv => whnf)
      | ((with_reducible refine Tst.tt ?_); conv => whnf)
      | ((with_reducible refine Tst.ff ?_); conv => whnf)
      | ((with_reducible refine Tst.dec (fun _ => ?_) (fun _ => ?_)) <;> first | (exfalso; omega) | (conv => whnf))
      | ((with_reducible refine Tst.not ?_))
      | (refine Wit.conv ⟨by omega, by omega⟩ ?_; conv => whnf)
      | ((with_reducible refine IdxV.nat (by omega) ?_); conv => whnf)
      | ((with_reducible refine SameW.mk rfl ?_); conv => whnf)
      | (refine LoadV.mem (i := 0) (by assumption) rfl rfl ?_; conv => whnf)
      | (refine LoadV.mem (i := 1) (by assumption) rfl rfl ?_; conv => whnf)
      | (refine LoadV.mem (i := 2) (by assumption) rfl rfl ?_; conv => whnf)
      | ((with_reducible refine Tst.beqT ?_))
      | ((with_reducible refine Tst.beqF ?_))
      | (refine Tst.yes rfl ?_; conv => whnf)
      | (refine Tst.no rfl ?_; conv => whnf)))
  · refine ElemV.sl hA2 rfl pos rfl (by omega) ?_
    intro b off hc
    have hlt : pos < l.length := by omega
    (conv => whnf)
    refine LoadV.cell0 hc ?_
    (conv => whnf)
    (repeat' (first
      | (refine Obl.mk ⟨by omega, by omega⟩ ?_; conv => whnf)
      | (refine Obl.mk ⟨by omega, by omega, ⟨by omega, by omega⟩⟩ ?_; conv => whnf)
      | ((with_reducible refine Tst.tt ?_); conv => whnf)
      | ((with_reducible refine Tst.ff ?_); conv => whnf)
      | ((with_reducible refine Tst.dec (fun _ => ?_) (fun _ => ?_)) <;> first | (exfalso; omega) | (conv => whnf))
      | ((with_reducible refine Tst.not ?_))
      | (refine Wit.conv ⟨by omega, by omega⟩ ?_; conv => whnf)
      | ((with_reducible refine IdxV.nat (by omega) ?_); conv => whnf)
      | ((with_reducible refine SameW.mk rfl ?_); conv => whnf)
      | (refine LoadV.mem (i := 0) (by assumption) rfl rfl ?_; conv => whnf)
      | (refine LoadV.mem (i := 1) (by assumption) rfl rfl ?_; conv => whnf)
      | (refine LoadV.mem (i := 2) (by assumption) rfl rfl ?_; conv => whnf)
      | ((with_reducible refine Tst.beqT ?_))
      | ((with_reducible refine Tst.beqF ?_))
      | (refine Tst.yes rfl ?_; conv => whnf)
      | (refine Tst.no rfl ?_; conv => whnf)))
    refine CallV.of (wellFormed_any _ (hs _ (List.getElem_mem _)) _) ?_
    rintro v w3 ⟨rfl, he3⟩
    (conv => whnf)
    (repeat' (first
      | (refine Obl.mk ⟨by omega, by omega⟩ ?_; conv => whnf)
      | (refine Obl.mk ⟨by omega, by omega, ⟨by omega, by omega⟩⟩ ?_; conv => whnf)
      | ((with_reducible refine Tst.tt ?_); conv => whnf)
      | ((with_reducible refine Tst.ff ?_); conv => whnf)
      | ((with_reducible refine Tst.dec (fun _ => ?_) (fun _ => ?_)) <;> first | (exfalso; omega) | (conv => whnf))
      | ((with_reducible refine Tst.not ?_))
      | (refine Wit.conv ⟨by omega, by omega⟩ ?_; conv => whnf)
      | ((with_reducible refine IdxV.nat (by omega) ?_); conv => whnf)
      | ((with_reducible refine SameW.mk rfl ?_); conv => whnf)
      | (refine LoadV.mem (i := 0) (by assumption) rfl rfl ?_; conv => whnf)
      | (refine LoadV.mem (i := 1) (by assumption) rfl rfl ?_; conv => whnf)
      | (refine LoadV.mem (i := 2) (by assumption) rfl rfl ?_; conv => whnf)
      | ((with_reducible refine Tst.beqT ?_))
      | ((with_reducible refine Tst.beqF ?_))
      | (refine Tst.yes rfl ?_; conv => whnf)
      | (refine Tst.no rfl ?_; conv => whnf)))
    · refine ElemV.sl (hA2.ext he3) rfl (pos - 1) (by omega) (by omega) ?_
      intro b' off' hc'
      (conv => whnf)
      (repeat' (first
      | (refine Obl.mk ⟨by omega, by omega⟩ ?_; conv => whnf)
      | (refine Obl.mk ⟨by omega, by omega, ⟨by omega, by omega⟩⟩ ?_; conv => whnf)
      | ((with_reducible refine Tst.tt ?_); conv => whnf)
      | ((with_reducible refine Tst.ff ?_); conv => whnf)
      | ((with_reducible refine Tst.dec (fun _ => ?_) (fun _ => ?_)) <;> first | (exfalso; omega) | (conv => whnf))
      | ((with_reducible refine Tst.not ?_))
      | (refine Wit.conv ⟨by omega, by omega⟩ ?_; conv => whnf)
      | ((with_reducible refine IdxV.nat (by omega) ?_); conv => whnf)
      | ((with_reducible refine SameW.mk rfl ?_); conv => whnf)
      | (refine LoadV.mem (i := 0) (by assumption) rfl rfl ?_; conv => whnf)
      | (refine LoadV.mem (i := 1) (by assumption) rfl rfl ?_; conv => whnf)
      | (refine LoadV.mem (i := 2) (by assumption) rfl rfl ?_; conv => whnf)
      | ((with_reducible refine Tst.beqT ?_))
      | ((with_reducible refine Tst.beqF ?_))
      | (refine Tst.yes rfl ?_; conv => whnf)
      | (refine Tst.no rfl ?_; conv => whnf)))
      refine LoadV.cell0 hc' ?_
      (conv => whnf)
      (repeat' (first
      | (refine Obl.mk ⟨by omega, by omega⟩ ?_; conv => whnf)
      | (refine Obl.mk ⟨by omega, by omega, ⟨by omega, by omega⟩⟩ ?_; conv => whnf)
      | ((with_reducible refine Tst.tt ?_); conv => whnf)
      | ((with_reducible refine Tst.ff ?_); conv => whnf)
      | ((with_reducible refine Tst.dec (fun _ => ?_) (fun _ => ?_)) <;> first | (exfalso; omega) | (conv => whnf))
      | ((with_reducible refine Tst.not ?_))
      | (refine Wit.conv ⟨by omega, by omega⟩ ?_; conv => whnf)
      | ((with_reducible refine IdxV.nat (by omega) ?_); conv => whnf)
      | ((with_reducible refine SameW.mk rfl ?_); conv => whnf)
      | (refine LoadV.mem (i := 0) (by assumption) rfl rfl ?_; conv => whnf)
      | (refine LoadV.mem (i := 1) (by assumption) rfl rfl ?_; conv => whnf)
      | (refine LoadV.mem (i := 2) (by assumption) rfl rfl ?_; conv => whnf)
      | ((with_reducible refine Tst.beqT ?_))
      | ((with_reducible refine Tst.beqF ?_))
      | (refine Tst.yes rfl ?_; conv => whnf)
      | (refine Tst.no rfl ?_; conv => whnf)))
      cases hlt' : slt l[pos - 1] l[pos]
      · (conv => whnf)
        (repeat' (first
      | (refine Obl.mk ⟨by omega, by omega⟩ ?_; conv => whnf)
      | (refine Obl.mk ⟨by omega, by omega, ⟨by omega, by omega⟩⟩ ?_; conv => whnf)
      | ((with_reducible refine Tst.tt ?_); conv => whnf)
      | ((with_reducible refine Tst.ff ?_); conv => whnf)
      | ((with_reducible refine Tst.dec (fun _ => ?_) (fun _ => ?_)) <;> first | (exfalso; omega) | (conv => whnf))
      | ((with_reducible refine Tst.not ?_))
      | (refine Wit.conv ⟨by omega, by omega⟩ ?_; conv => whnf)
      | ((with_reducible refine IdxV.nat (by omega) ?_); conv => whnf)
      | ((with_reducible refine SameW.mk rfl ?_); conv => whnf)
      | (refine LoadV.mem (i := 0) (by assumption) rfl rfl ?_; conv => whnf)
      | (refine LoadV.mem (i := 1) (by assumption) rfl rfl ?_; conv => whnf)
      | (refine LoadV.mem (i := 2) (by assumption) rfl rfl ?_; conv => whnf)
      | ((with_reducible refine Tst.beqT ?_))
      | ((with_reducible refine Tst.beqF ?_))
      | (refine Tst.yes rfl ?_; conv => whnf)
      | (refine Tst.no rfl ?_; conv => whnf)))
        refine ⟨⟨false, rfl, by simp; intro hh; have := (hh pos hlt).2 (by omega); rw [hlt'] at this; cases this⟩, he.trans he3⟩
      · (conv => whnf)
        (repeat' (first
      | (refine Obl.mk ⟨by omega, by omega⟩ ?_; conv => whnf)
      | (refine Obl.mk ⟨by omega, by omega, ⟨by omega, by omega⟩⟩ ?_; conv => whnf)
      | ((with_reducible refine Tst.tt ?_); conv => whnf)
      | ((with_reducible refine Tst.ff ?_); conv => whnf)
      | ((with_reducible refine Tst.dec (fun _ => ?_) (fun _ => ?_)) <;> first | (exfalso; omega) | (conv => whnf))
      | ((with_reducible refine Tst.not ?_))
      | (refine Wit.conv ⟨by omega, by omega⟩ ?_; conv => whnf)
      | ((with_reducible refine IdxV.nat (by omega) ?_); conv => whnf)
      | ((with_reducible refine SameW.mk rfl ?_); conv => whnf)
      | (refine LoadV.mem (i := 0) (by assumption) rfl rfl ?_; conv => whnf)
      | (refine LoadV.mem (i := 1) (by assumption) rfl rfl ?_; conv => whnf)
      | (refine LoadV.mem (i := 2) (by assumption) rfl rfl ?_; conv => whnf)
      | ((with_reducible refine Tst.beqT ?_))
      | ((with_reducible refine Tst.beqF ?_))
      | (refine Tst.yes rfl ?_; conv => whnf)
      | (refine Tst.no rfl ?_; conv => whnf)))
        refine ⟨pos + 1, ⟨rfl, rfl, rfl, rfl, trivial⟩, ⟨by omega, he.trans he3, fun i h hi => ?_⟩, by omega⟩
        by_cases e : i = pos
        · subst e; exact ⟨by assumption, fun _ => hlt'⟩
        · exact ha i h (by omega)
    · refine ⟨pos + 1, ⟨rfl, rfl, rfl, rfl, trivial⟩, ⟨by omega, he.trans he3, fun i h hi => ?_⟩, by omega⟩
      by_cases e : i = pos
      · subst e; exact ⟨by assumption, fun h => absurd h (by omega)⟩
      · exact ha i h (by omega)
    · refine ⟨⟨false, rfl, by simp; intro hh; have := (hh pos hlt).1; contradiction⟩, he.trans he3⟩
  · exact ⟨⟨true, rfl, by simp; intro i h; exact ha i h (by omega)⟩, he⟩

/-! A path's nodes. -/
structure PN where
  op : Int
  iri : ByteArray
  a : Int
  b : Int
  fA : Option Addr
  fc : Nat
  f : List ByteArray
  vA : Option Addr
  vc : Nat
  v : List ByteArray
def encN (n : PN) : List Value := [.int .i64 n.op, .string n.iri, .int .i64 n.a, .int .i64 n.b, .slice n.fA n.f.length n.fc, .slice n.vA n.v.length n.vc]
structure NodeOk (w : World) (n : PN) : Prop where
  op : InR .i64 n.op
  a : InR .i64 n.a
  b : InR .i64 n.b
  iri : n.iri.size ≤ 140737488355328
  fl : n.f.length ≤ 140737488355328
  vl : n.v.length ≤ 140737488355328
  fs : ∀ s ∈ n.f, s.size ≤ 140737488355328
  vs : ∀ s ∈ n.v, s.size ≤ 140737488355328
  fA : SlAt encS 1 w n.fA n.f
  vA : SlAt encS 1 w n.vA n.v
theorem NodeOk.ext {w w' : World} {n : PN} (h : NodeOk w n) (he : Ext w w') : NodeOk w' n :=
  { h with fA := h.fA.ext he, vA := h.vA.ext he }

/-- what a node must have -/
def FieldsP (n : PN) : Prop :=
  (n.op = 1 ∧ n.iri ≠ ⟨#[]⟩ ∧ n.f.length + n.v.length = 0 ∧ n.a = 0 ∧ n.b = 0 ∧ iriE n.iri = 0) ∨
  (n.op = 8 ∧ n.iri = ⟨#[]⟩ ∧ n.a = 0 ∧ n.b = 0 ∧ 0 < n.f.length + n.v.length ∧ ListedP n.f ∧ ListedP n.v) ∨
  ((n.op = 2 ∨ n.op = 5 ∨ n.op = 6 ∨ n.op = 7) ∧ n.iri = ⟨#[]⟩ ∧ n.f.length + n.v.length = 0 ∧ n.b = 0) ∨
  ((n.op = 3 ∨ n.op = 4) ∧ n.iri = ⟨#[]⟩ ∧ n.f.length + n.v.length = 0)

theorem FieldsP_e {n : PN} (hi : n.iri = ⟨#[]⟩) : FieldsP n ↔ (n.op = 8 ∧ n.a = 0 ∧ n.b = 0 ∧ 0 < n.f.length + n.v.length ∧ ListedP n.f ∧ ListedP n.v) ∨
    ((n.op = 2 ∨ n.op = 5 ∨ n.op = 6 ∨ n.op = 7) ∧ n.f.length + n.v.length = 0 ∧ n.b = 0) ∨ ((n.op = 3 ∨ n.op = 4) ∧ n.f.length + n.v.length = 0) := by
  unfold FieldsP; simp [hi]
theorem FieldsP_ne {n : PN} (hi : ¬ n.iri = ⟨#[]⟩) : FieldsP n ↔ n.op = 1 ∧ n.f.length + n.v.length = 0 ∧ n.a = 0 ∧ n.b = 0 ∧ iriE n.iri = 0 := by
  unfold FieldsP; simp [hi]
theorem fields_any (n : PN) (w : World) (hn : NodeOk w n) :
    Gv Tryz.prog 33 [.agg #[.int .i64 n.op, .string n.iri, .int .i64 n.a, .int .i64 n.b, .slice n.fA n.f.length n.fc, .slice n.vA n.v.length n.vc]] w fun v w' => (∃ b, v = .bool b ∧ (b = true ↔ FieldsP n)) ∧ Ext w w' := by
  have hfl := hn.fl
  have hvl := hn.vl
  refine gv (by kernel_rfl) Tryz.func33 rfl Tryz.ntmps33 rfl ?_; conv => whnf
  refine NewV.mem (Mem.nil w) ?_
  intro b w1 hm
  (conv => whnf)
  (repeat' (first
      | (refine Obl.mk ⟨by omega, by omega⟩ ?_; conv => whnf)
      | (refine Obl.mk ⟨by omega, by omega, ⟨by omega, by omega⟩⟩ ?_; conv => whnf)
      | ((with_reducible refine Tst.tt ?_); conv => whnf)
      | ((with_reducible refine Tst.ff ?_); conv => whnf)
      | ((with_reducible refine Tst.dec (fun _ => ?_) (fun _ => ?_)) <;> first | (exfalso; omega) | (conv => whnf))
      | ((with_reducible refine Tst.not ?_))
      | (refine Wit.conv ⟨by omega, by omega⟩ ?_; conv => whnf)
      | ((with_reducible refine IdxV.nat (by omega) ?_); conv => whnf)
      | ((with_reducible refine SameW.mk rfl ?_); conv => whnf)
      | (refine LoadV.mem (i := 0) (by assumption) rfl rfl ?_; conv => whnf)
      | (refine LoadV.mem (i := 1) (by assumption) rfl rfl ?_; conv => whnf)
      | (refine LoadV.mem (i := 2) (by assumption) rfl rfl ?_; conv => whnf)
      | ((with_reducible refine Tst.beqT ?_))
      | ((with_reducible refine Tst.beqF ?_))
      | (refine Tst.yes rfl ?_; conv => whnf)
      | (refine Tst.no rfl ?_; conv => whnf)))
  have hcase : seq n.iri ⟨#[]⟩ = decide (n.iri = ⟨#[]⟩) := by rw [Bool.eq_iff_iff, seq_iff]; simp
  rw [hcase]
  by_cases hi : n.iri = ⟨#[]⟩
  · rw [decide_eq_true hi, Bool.not_true]
    (repeat' (first
      | (refine Obl.mk ⟨by omega, by omega⟩ ?_; conv => whnf)
      | (refine Obl.mk ⟨by omega, by omega, ⟨by omega, by omega⟩⟩ ?_; conv => whnf)
      | ((with_reducible refine Tst.tt ?_); conv => whnf)
      | ((with_reducible refine Tst.ff ?_); conv => whnf)
      | ((with_reducible refine Tst.dec (fun _ => ?_) (fun _ => ?_)) <;> first | (exfalso; omega) | (conv => whnf))
      | ((with_reducible refine Tst.not ?_))
      | (refine Wit.conv ⟨by omega, by omega⟩ ?_; conv => whnf)
      | ((with_reducible refine IdxV.nat (by omega) ?_); conv => whnf)
      | ((with_reducible refine SameW.mk rfl ?_); conv => whnf)
      | (refine LoadV.mem (i := 0) (by assumption) rfl rfl ?_; conv => whnf)
      | (refine LoadV.mem (i := 1) (by assumption) rfl rfl ?_; conv => whnf)
      | (refine LoadV.mem (i := 2) (by assumption) rfl rfl ?_; conv => whnf)
      | ((with_reducible refine Tst.beqT ?_))
      | ((with_reducible refine Tst.beqF ?_))
      | (refine Tst.yes rfl ?_; conv => whnf)
      | (refine Tst.no rfl ?_; conv => whnf)))
    all_goals first
      | (refine ⟨⟨_, rfl, ?_⟩, hm.ext⟩; rw [FieldsP_e hi]; simp only [decide_eq_true_iff, Bool.false_eq_true, false_iff, true_iff]; omega)
      | skip
    refine CallV.of (listed_any n.f n.fA n.fc _ (hn.fA.ext hm.ext) hfl hn.fs) ?_
    rintro v w2 ⟨⟨b1, rfl, hb1⟩, he2⟩
    have hm2 := hm.call he2
    cases b1
    · (conv => whnf)
      (repeat' (first
      | (refine Obl.mk ⟨by omega, by omega⟩ ?_; conv => whnf)
      | (refine Obl.mk ⟨by omega, by omega, ⟨by omega, by omega⟩⟩ ?_; conv => whnf)
      | ((with_reducible refine Tst.tt ?_); conv => whnf)
      | ((with_reducible refine Tst.ff ?_); conv => whnf)
      | ((with_reducible refine Tst.dec (fun _ => ?_) (fun _ => ?_)) <;> first | (exfalso; omega) | (conv => whnf))
      | ((with_reducible refine Tst.not ?_))
      | (refine Wit.conv ⟨by omega, by omega⟩ ?_; conv => whnf)
      | ((with_reducible refine IdxV.nat (by omega) ?_); conv => whnf)
      | ((with_reducible refine SameW.mk rfl ?_); conv => whnf)
      | (refine LoadV.mem (i := 0) (by assumption) rfl rfl ?_; conv => whnf)
      | (refine LoadV.mem (i := 1) (by assumption) rfl rfl ?_; conv => whnf)
      | (refine LoadV.mem (i := 2) (by assumption) rfl rfl ?_; conv => whnf)
      | ((with_reducible refine Tst.beqT ?_))
      | ((with_reducible refine Tst.beqF ?_))
      | (refine Tst.yes rfl ?_; conv => whnf)
      | (refine Tst.no rfl ?_; conv => whnf)))
      refine ⟨⟨_, rfl, ?_⟩, hm2.ext⟩
      rw [FieldsP_e hi]; simp only [Bool.false_eq_true, false_iff] at hb1 ⊢
      rintro (h | h | h)
      · exact hb1 h.2.2.2.2.1
      · omega
      · omega
    · (conv => whnf)
      (repeat' (first
      | (refine Obl.mk ⟨by omega, by omega⟩ ?_; conv => whnf)
      | (refine Obl.mk ⟨by omega, by omega, ⟨by omega, by omega⟩⟩ ?_; conv => whnf)
      | ((with_reducible refine Tst.tt ?_); conv => whnf)
      | ((with_reducible refine Tst.ff ?_); conv => whnf)
      | ((with_reducible refine Tst.dec (fun _ => ?_) (fun _ => ?_)) <;> first | (exfalso; omega) | (conv => whnf))
      | ((with_reducible refine Tst.not ?_))
      | (refine Wit.conv ⟨by omega, by omega⟩ ?_; conv => whnf)
      | ((with_reducible refine IdxV.nat (by omega) ?_); conv => whnf)
      | ((with_reducible refine SameW.mk rfl ?_); conv => whnf)
      | (refine LoadV.mem (i := 0) (by assumption) rfl rfl ?_; conv => whnf)
      | (refine LoadV.mem (i := 1) (by assumption) rfl rfl ?_; conv => whnf)
      | (refine LoadV.mem (i := 2) (by assumption) rfl rfl ?_; conv => whnf)
      | ((with_reducible refine Tst.beqT ?_))
      | ((with_reducible refine Tst.beqF ?_))
      | (refine Tst.yes rfl ?_; conv => whnf)
      | (refine Tst.no rfl ?_; conv => whnf)))
      refine CallV.of (listed_any n.v n.vA n.vc _ (hn.vA.ext hm2.ext) hvl hn.vs) ?_
      rintro v w3 ⟨⟨b2, rfl, hb2⟩, he3⟩
      have hm3 := hm2.call he3
      (conv => whnf)
      (repeat' (first
      | (refine Obl.mk ⟨by omega, by omega⟩ ?_; conv => whnf)
      | (refine Obl.mk ⟨by omega, by omega, ⟨by omega, by omega⟩⟩ ?_; conv => whnf)
      | ((with_reducible refine Tst.tt ?_); conv => whnf)
      | ((with_reducible refine Tst.ff ?_); conv => whnf)
      | ((with_reducible refine Tst.dec (fun _ => ?_) (fun _ => ?_)) <;> first | (exfalso; omega) | (conv => whnf))
      | ((with_reducible refine Tst.not ?_))
      | (refine Wit.conv ⟨by omega, by omega⟩ ?_; conv => whnf)
      | ((with_reducible refine IdxV.nat (by omega) ?_); conv => whnf)
      | ((with_reducible refine SameW.mk rfl ?_); conv => whnf)
      | (refine LoadV.mem (i := 0) (by assumption) rfl rfl ?_; conv => whnf)
      | (refine LoadV.mem (i := 1) (by assumption) rfl rfl ?_; conv => whnf)
      | (refine LoadV.mem (i := 2) (by assumption) rfl rfl ?_; conv => whnf)
      | ((with_reducible refine Tst.beqT ?_))
      | ((with_reducible refine Tst.beqF ?_))
      | (refine Tst.yes rfl ?_; conv => whnf)
      | (refine Tst.no rfl ?_; conv => whnf)))
      refine ⟨⟨_, rfl, ?_⟩, hm3.ext⟩
      rw [FieldsP_e hi, hb2]
      constructor
      · intro h; exact .inl ⟨by omega, by omega, by omega, by omega, hb1.1 rfl, h⟩
      · rintro (h | h | h)
        · exact h.2.2.2.2.2
        · omega
        · omega
  · rw [decide_eq_false hi, Bool.not_false]
    (repeat' (first
      | (refine Obl.mk ⟨by omega, by omega⟩ ?_; conv => whnf)
      | (refine Obl.mk ⟨by omega, by omega, ⟨by omega, by omega⟩⟩ ?_; conv => whnf)
      | ((with_reducible refine Tst.tt ?_); conv => whnf)
      | ((with_reducible refine Tst.ff ?_); conv => whnf)
      | ((with_reducible refine Tst.dec (fun _ => ?_) (fun _ => ?_)) <;> first | (exfalso; omega) | (conv => whnf))
      | ((with_reducible refine Tst.not ?_))
      | (refine Wit.conv ⟨by omega, by omega⟩ ?_; conv => whnf)
      | ((with_reducible refine IdxV.nat (by omega) ?_); conv => whnf)
      | ((with_reducible refine SameW.mk rfl ?_); conv => whnf)
      | (refine LoadV.mem (i := 0) (by assumption) rfl rfl ?_; conv => whnf)
      | (refine LoadV.mem (i := 1) (by assumption) rfl rfl ?_; conv => whnf)
      | (refine LoadV.mem (i := 2) (by assumption) rfl rfl ?_; conv => whnf)
      | ((with_reducible refine Tst.beqT ?_))
      | ((with_reducible refine Tst.beqF ?_))
      | (refine Tst.yes rfl ?_; conv => whnf)
      | (refine Tst.no rfl ?_; conv => whnf)))
    all_goals first
      | (refine ⟨⟨_, rfl, ?_⟩, hm.ext⟩; rw [FieldsP_ne hi]; simp only [Bool.false_eq_true, false_iff]; omega)
      | skip
    refine CallV.of (wellFormed_any _ hn.iri _) ?_
    rintro v w2 ⟨rfl, he2⟩
    (conv => whnf)
    (repeat' (first
      | (refine Obl.mk ⟨by omega, by omega⟩ ?_; conv => whnf)
      | (refine Obl.mk ⟨by omega, by omega, ⟨by omega, by omega⟩⟩ ?_; conv => whnf)
      | ((with_reducible refine Tst.tt ?_); conv => whnf)
      | ((with_reducible refine Tst.ff ?_); conv => whnf)
      | ((with_reducible refine Tst.dec (fun _ => ?_) (fun _ => ?_)) <;> first | (exfalso; omega) | (conv => whnf))
      | ((with_reducible refine Tst.not ?_))
      | (refine Wit.conv ⟨by omega, by omega⟩ ?_; conv => whnf)
      | ((with_reducible refine IdxV.nat (by omega) ?_); conv => whnf)
      | ((with_reducible refine SameW.mk rfl ?_); conv => whnf)
      | (refine LoadV.mem (i := 0) (by assumption) rfl rfl ?_; conv => whnf)
      | (refine LoadV.mem (i := 1) (by assumption) rfl rfl ?_; conv => whnf)
      | (refine LoadV.mem (i := 2) (by assumption) rfl rfl ?_; conv => whnf)
      | ((with_reducible refine Tst.beqT ?_))
      | ((with_reducible refine Tst.beqF ?_))
      | (refine Tst.yes rfl ?_; conv => whnf)
      | (refine Tst.no rfl ?_; conv => whnf)))
    refine ⟨⟨_, rfl, ?_⟩, hm.ext.trans he2⟩
    rw [FieldsP_ne hi]; simp only [decide_eq_true_iff]; omega
end Go.Proofs.YtajgbepghniciaaGreatDoor
