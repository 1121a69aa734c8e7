/- Regions whose order is drawn and that change what they have made: facts that are used up. Program-independent. -/
import Derived.Test.YtajgbepghniciaaGreatDoorRes
namespace Go.Proofs.YtajgbepghniciaaGreatDoor
open Go.RowKit
namespace V

/-- w' is w but for some old blocks (and new ones). -/
structure Chg (w w' : World) (B : List (Option Nat)) : Prop where
  os : w'.os = w.os
  tape : w'.tape = w.tape
  output : w'.output = w.output
  size : w.heap.size ≤ w'.heap.size
  block : ∀ k, k < w.heap.size → some k ∉ B → w'.heap[k]? = w.heap[k]?
theorem Chg.ext {w w' : World} {B : List (Option Nat)} (h : Ext w w') : Chg w w' B := ⟨h.os, h.tape, h.output, h.size, fun k hk _ => h.block k hk⟩
theorem Chg.refl (w : World) (B : List (Option Nat)) : Chg w w B := Chg.ext (Ext.refl w)
theorem Chg.grown {w w' : World} {B : List (Option Nat)} {row : Option Nat} (h : w.grownBy w' row) (hr : row ∈ B ∨ row = none) : Chg w w' B :=
  ⟨h.os, h.tape, h.output, h.size, fun k hk hB => h.block k hk (fun e => by
    rcases hr with hr | hr
    · rw [← e] at hr; exact hB hr
    · rw [hr] at e; cases e)⟩

/-- An entry: its slot, its value if settled, who uses it up, what holds. -/
structure EntO where
  d : Option Tmp
  v : Option Value
  u : Option Nat
  φ : Value → World → Prop
def EntO.plain (e : EntO) : Ent := ⟨e.d, e.v, fun x _ => ∀ c, e.v = some c → x = c⟩
def keptB (u : Option Nat) (i : Option Nat) : Bool :=
  match u with
  | none => true
  | some a => match i with
    | none => false
    | some b => Nat.beq a b
abbrev AL := List (Nat × Nat × Option Nat × (Value → World → Prop))
def lookO : AL → Nat → Option (Nat × Option Nat × (Value → World → Prop))
  | [], _ => none
  | (i, x) :: es, k => bif Nat.beq i k then some x else lookO es k
/-- for all values that the entries may have, at operation i -/
def allO (base : Nat) (es : AL) (i : Option Nat) : List Nat → (Nat → Value) → World → ((Nat → Value) → Prop) → Prop
  | [], ρ, _, K => K ρ
  | k :: ks, ρ, w, K =>
    match lookO es k with
    | some (d, u, φ) => bif keptB u i then ∀ v, φ v w → (∀ g, v.ownBlock = some g → base ≤ g ∧ g < w.heap.size) → allO base es i ks (upd ρ d v) w K else ∀ v, allO base es i ks (upd ρ d v) w K
    | none => allO base es i ks ρ w K
/-- the own blocks of what operation i uses up -/
def usedB (es : AL) (i : Nat) : List Nat → (Nat → Value) → List (Option Nat)
  | [], _ => []
  | k :: ks, ρ =>
    match lookO es k with
    | some (d, u, _) => match u with
      | some j => bif Nat.beq j i then (ρ d).ownBlock :: usedB es i ks ρ else usedB es i ks ρ
      | none => usedB es i ks ρ
    | none => usedB es i ks ρ
def idxO : AL → List Nat
  | [] => []
  | (i, _) :: es => i :: idxO es
def pushO (k : Nat) (u : Option Nat) (φ : Value → World → Prop) (es : AL) : Option Tmp → Option Value → AL
  | some d, none => (k, d, u, φ) :: es
  | _, _ => es
/-- what holds of a value alone: blocks below a place, and its own -/
def Loc (base : Nat) (φ : Value → World → Prop) : Prop :=
  ∀ v w w', φ v w → (∀ k, k < w.heap.size → (k < base ∨ v.ownBlock = some k) → w'.heap[k]? = w.heap[k]?) → w.heap.size ≤ w'.heap.size → φ v w'
/-- what an operation may do: use up, make, settle -/
def PostO (w : World) (B : List (Option Nat)) (still : Bool) (φ : Value → World → Prop) (v : Value) (w' : World) : Prop :=
  Chg w w' B ∧ φ v w' ∧ (still = false → ∀ g, v.ownBlock = some g → g < w'.heap.size ∧ (some g ∈ B ∨ w.heap.size ≤ g))
structure StepO (base : Nat) (A : Bool → (Value → World → Prop) → Prop) (K : Option Value → Option Nat → (Value → World → Prop) → Prop) : Prop where
  h : (∃ v, A true (fun u _ => u = v) ∧ K (some v) none (fun u _ => u = v)) ∨ (∃ u φ, Loc base φ ∧ A false φ ∧ K none u φ)
theorem StepO.still {base : Nat} {A : Bool → (Value → World → Prop) → Prop} {K : Option Value → Option Nat → (Value → World → Prop) → Prop} (v : Value) (h : A true (fun u _ => u = v)) (hk : K (some v) none (fun u _ => u = v)) : StepO base A K := ⟨.inl ⟨v, h, hk⟩⟩
theorem StepO.of {base : Nat} {A : Bool → (Value → World → Prop) → Prop} {K : Option Value → Option Nat → (Value → World → Prop) → Prop} (u : Option Nat) (φ : Value → World → Prop) (hl : Loc base φ) (h : A false φ) (hk : K none u φ) : StepO base A K := ⟨.inr ⟨u, φ, hl, h, hk⟩⟩
def regO (P : Program) (ops : List Oper) (w0 : World) (Q : (Nat → Value) → World → Prop) : List Oper → Nat → AL → (Nat → Value) → Prop
  | [], _, _, _ => False
  | [o], k, es, ρ => ∀ w, Ext w0 w → allO w0.heap.size es (some k) (idxO es) ρ w fun ρ' => guardO P ops o ρ' w fun v w' => Q (updO ρ' o.dst (some v)) w'
  | o :: l, k, es, ρ => StepO w0.heap.size
      (fun still φ => ∀ w, Ext w0 w → allO w0.heap.size es (some k) (preds o) ρ w fun ρ' => guardO P ops o ρ' w (PostO w (usedB es k (preds o) ρ') still φ))
      (fun v u φ => regO P ops w0 Q l (k + 1) (pushO k u φ es o.dst v) (updO ρ o.dst v))

structure EntOkO (base : Nat) (e : EntO) (o : Oper) : Prop where
  d : e.d = o.dst
  loc : Loc base e.φ
  st : e.v ≠ none → ∀ x w w', e.φ x w → e.φ x w'
  v : ∀ c, e.v = some c → ∀ x w, e.φ x w → x = c
def AgreeO (es : AL) (F : List EntO) : Prop :=
  ∀ k, (match getL F k with | some ⟨some d, none, u, φ⟩ => lookO es k = some (d, u, φ) | _ => lookO es k = none)
theorem AgreeO.look {es : AL} {F : List EntO} (h : AgreeO es F) {k d : Nat} {u : Option Nat} {φ : Value → World → Prop} : lookO es k = some (d, u, φ) ↔ F[k]? = some ⟨some d, none, u, φ⟩ := by
  have hk := h k
  rw [getL_eq] at hk
  constructor
  · intro hl
    split at hk
    · rename_i d' u' φ' hg
      rw [hk] at hl
      cases hl
      exact hg
    · rw [hk] at hl; cases hl
  · intro hg
    rw [hg] at hk
    exact hk
theorem mem_idxO {es : AL} {k : Nat} {x : Nat × Option Nat × (Value → World → Prop)} (h : lookO es k = some x) : k ∈ idxO es := by
  induction es with
  | nil => cases h
  | cons y es ih =>
    obtain ⟨i, z⟩ := y
    simp only [lookO] at h
    cases hb : Nat.beq i k <;> rw [hb] at h
    · exact List.mem_cons_of_mem _ (ih h)
    · rw [Nat.eq_of_beq_eq_true hb]; exact List.mem_cons_self ..
theorem AgreeO.push {es : AL} {F : List EntO} (h : AgreeO es F) (dst : Option Tmp) (v : Option Value) (u : Option Nat) (φ : Value → World → Prop) : AgreeO (pushO F.length u φ es dst v) (F ++ [⟨dst, v, u, φ⟩]) := by
  intro k
  have hk := h k
  have hg : ∀ k, k < F.length → getL (F ++ [⟨dst, v, u, φ⟩]) k = getL F k := fun k hk => by rw [getL_eq, getL_eq, List.getElem?_append_left hk]
  have hlast : getL (F ++ [⟨dst, v, u, φ⟩]) F.length = some ⟨dst, v, u, φ⟩ := by rw [getL_eq, List.getElem?_append_right (Nat.le_refl _)]; simp
  have hnone : ∀ k, F.length ≤ k → getL F k = none := fun k hk => by rw [getL_eq, List.getElem?_eq_none hk]
  have hout : ∀ k, F.length < k → getL (F ++ [⟨dst, v, u, φ⟩]) k = none := fun k hk => by rw [getL_eq, List.getElem?_eq_none (by simp; omega)]
  have hL : lookO es F.length = none := by have := h F.length; rw [hnone _ (Nat.le_refl _)] at this; exact this
  have other : k ≠ F.length → lookO (pushO F.length u φ es dst v) k = lookO es k := fun hne => by
    unfold pushO
    split
    · have : Nat.beq F.length k = false := Bool.eq_false_iff.2 fun e => hne (Nat.eq_of_beq_eq_true e).symm
      simp only [lookO, this, cond_false]
    · rfl
  rcases Nat.lt_trichotomy k F.length with hlt | rfl | hgt
  · rw [hg k hlt, other (by omega)]; exact hk
  · rw [hlast]
    have hrefl : Nat.beq F.length F.length = true := by simp
    cases dst with
    | none => exact hL
    | some d =>
      cases v with
      | none => simp only [pushO, lookO, hrefl, cond_true]
      | some v => exact hL
  · rw [hout k hgt, other (by omega)]
    rw [hnone k (by omega)] at hk
    exact hk

section
variable {P : Program} {n : Nat} {ops : List Oper} {w0 : World}
/-- what the walk shows of each operation -/
def SpecO (P : Program) (ops : List Oper) (w0 : World) (F : List EntO) (ρ0 : Nat → Value) (i : Nat) (o : Oper) (e : EntO) : Prop :=
  EntOkO w0.heap.size e o ∧ ∃ es, AgreeO es (F.take i) ∧ ∀ w, Ext w0 w → allO w0.heap.size es (some i) (preds o) (sfr ((F.take i).map EntO.plain) ρ0) w fun ρ' =>
    guardO P ops o ρ' w (PostO w (usedB es i (preds o) ρ') e.v.isSome e.φ)
theorem regO_all {Q : (Nat → Value) → World → Prop} (l : List Oper) : ∀ (es : AL) (F : List EntO) (ρ0 : Nat → Value), AgreeO es F → regO P ops w0 Q l F.length es (sfr (F.map EntO.plain) ρ0) →
    ∃ (E : List EntO) (o : Oper), E.length + 1 = l.length ∧ l[E.length]? = some o ∧ (∀ i o' e, l[i]? = some o' → E[i]? = some e → SpecO P ops w0 (F ++ E) ρ0 (F.length + i) o' e) ∧
      ∃ es', AgreeO es' (F ++ E) ∧ ∀ w, Ext w0 w → allO w0.heap.size es' (some (F ++ E).length) (idxO es') (sfr ((F ++ E).map EntO.plain) ρ0) w fun ρ' =>
        guardO P ops o ρ' w fun v w' => Q (updO ρ' o.dst (some v)) w' := by
  induction l with
  | nil => intro es F ρ0 _ h; exact h.elim
  | cons o l ih =>
    intro es F ρ0 hAg h
    cases l with
    | nil =>
      refine ⟨[], o, rfl, rfl, fun i o' e _ he => by simp at he, es, by simpa using hAg, ?_⟩
      simpa [regO] using h
    | cons o2 l =>
      have key : ∀ (v : Option Value) (u : Option Nat) (φ : Value → World → Prop), EntOkO w0.heap.size ⟨o.dst, v, u, φ⟩ o →
          (∀ w, Ext w0 w → allO w0.heap.size es (some F.length) (preds o) (sfr (F.map EntO.plain) ρ0) w fun ρ' => guardO P ops o ρ' w (PostO w (usedB es F.length (preds o) ρ') v.isSome φ)) →
          regO P ops w0 Q (o2 :: l) (F.length + 1) (pushO F.length u φ es o.dst v) (updO (sfr (F.map EntO.plain) ρ0) o.dst v) →
          ∃ (E : List EntO) (o' : Oper), E.length + 1 = (o :: o2 :: l).length ∧ (o :: o2 :: l)[E.length]? = some o' ∧ (∀ i o' e, (o :: o2 :: l)[i]? = some o' → E[i]? = some e → SpecO P ops w0 (F ++ E) ρ0 (F.length + i) o' e) ∧
            ∃ es', AgreeO es' (F ++ E) ∧ ∀ w, Ext w0 w → allO w0.heap.size es' (some (F ++ E).length) (idxO es') (sfr ((F ++ E).map EntO.plain) ρ0) w fun ρ' =>
              guardO P ops o' ρ' w fun v w' => Q (updO ρ' o'.dst (some v)) w' := fun v u φ hok hA hK => by
        have e1 : updO (sfr (F.map EntO.plain) ρ0) o.dst v = sfr ((F ++ [(⟨o.dst, v, u, φ⟩ : EntO)]).map EntO.plain) ρ0 := by rw [List.map_append, sfr_append]; rfl
        have e2 : F.length + 1 = (F ++ [(⟨o.dst, v, u, φ⟩ : EntO)]).length := by simp
        rw [e1, e2] at hK
        obtain ⟨E, o', h1, h2, h3, es', h4, h5⟩ := ih _ _ ρ0 (hAg.push o.dst v u φ) hK
        refine ⟨⟨o.dst, v, u, φ⟩ :: E, o', by simp only [List.length_cons] at h1 ⊢; omega, by simpa using h2, fun i o' e hi he => ?_, es', by simpa using h4, by simpa using h5⟩
        cases i with
        | zero =>
          simp at hi he
          subst hi he
          refine ⟨hok, es, by simpa using hAg, ?_⟩
          simpa using hA
        | succ i =>
          simp at hi he
          have := h3 i o' e hi he
          simpa [Nat.add_assoc, Nat.add_comm 1 i] using this
      obtain ⟨v, hA, hK⟩ | ⟨u, φ, hl, hA, hK⟩ := h.h
      · exact key (some v) none _ ⟨rfl, fun _ _ _ h _ _ => h, fun _ _ _ _ h => h, fun c hc x w hx => by cases hc; exact hx⟩ hA hK
      · exact key none u φ ⟨rfl, hl, fun h => absurd rfl h, fun c hc => by cases hc⟩ hA hK
theorem plain_get {F : List EntO} {k : Nat} : getL (F.map EntO.plain) k = (F[k]?).map EntO.plain := by rw [getL_eq, List.getElem?_map]
theorem allO_fr {base : Nat} {es : AL} {i : Option Nat} {F : List EntO} {vals : Nat → Value} {w : World} {K : (Nat → Value) → Prop} (hA : AgreeO es F) : ∀ (ks : List Nat) (ρ : Nat → Value),
    (∀ k ∈ ks, ∀ e, F[k]? = some e → e.v = none → keptB e.u i = true → e.φ (vals k) w ∧ ∀ g, (vals k).ownBlock = some g → base ≤ g ∧ g < w.heap.size) → allO base es i ks ρ w K → K (fr (F.map EntO.plain) vals ks ρ) := by
  intro ks
  induction ks with
  | nil => intro ρ _ h; exact h
  | cons k ks ih =>
    intro ρ hv h
    have hv' := fun k' (hk' : k' ∈ ks) => hv k' (List.mem_cons_of_mem _ hk')
    unfold allO at h
    rw [fr]
    cases hl : lookO es k with
    | none =>
      rw [hl] at h
      rw [frS_none]
      · exact ih _ hv' h
      · intro d φ hg
        rw [plain_get] at hg
        obtain ⟨e, he, hp⟩ := Option.map_eq_some_iff.1 hg
        obtain ⟨ed, ev, eu, eφ⟩ := e
        simp only [EntO.plain, Ent.mk.injEq] at hp
        obtain ⟨h1, h2, _⟩ := hp
        subst h1 h2
        rw [hA.look.2 he] at hl; cases hl
    | some x =>
      obtain ⟨d, u, φ⟩ := x
      have hg := hA.look.1 hl
      rw [hl] at h
      simp only at h
      rw [frS_some (d := d) (φ := (EntO.plain ⟨some d, none, u, φ⟩).φ) (by rw [plain_get, hg]; rfl)]
      cases hb : keptB u i <;> rw [hb] at h
      · exact ih _ hv' (h _)
      · obtain ⟨h1, h2⟩ := hv k (List.mem_cons_self ..) _ hg rfl hb
        exact ih _ hv' (h _ h1 h2)
theorem usedB_mem {es : AL} {i : Nat} {ρ : Nat → Value} {g : Nat} : ∀ ks, some g ∈ usedB es i ks ρ → ∃ k d φ, k ∈ ks ∧ lookO es k = some (d, some i, φ) ∧ (ρ d).ownBlock = some g := by
  intro ks
  induction ks with
  | nil => intro h; cases h
  | cons k ks ih =>
    intro h
    have next : some g ∈ usedB es i ks ρ → ∃ k' d φ, k' ∈ k :: ks ∧ lookO es k' = some (d, some i, φ) ∧ (ρ d).ownBlock = some g := fun h => by
      obtain ⟨k', d, φ, h1, h2, h3⟩ := ih h
      exact ⟨k', d, φ, List.mem_cons_of_mem _ h1, h2, h3⟩
    unfold usedB at h
    split at h
    · rename_i d u φ hl
      split at h
      · rename_i j
        cases hb : Nat.beq j i <;> rw [hb] at h
        · exact next h
        · have := Nat.eq_of_beq_eq_true hb
          subst this
          rcases List.mem_cons.1 h with h | h
          · exact ⟨k, d, φ, List.mem_cons_self .., hl, h.symm⟩
          · exact next h
      · exact next h
    · exact next h
structure InvO (F : List EntO) (w0 : World) (listed : Array Bool) (vals : Nat → Value) (w : World) : Prop where
  φ : ∀ (k : Nat) (e : EntO), F[k]? = some e → listed.getD k false = true → (∀ j, e.u = some j → listed.getD j false = false) → e.φ (vals k) w
  own : ∀ (k : Nat) (e : EntO) (g : Nat), F[k]? = some e → e.v = none → listed.getD k false = true → (∀ j, e.u = some j → listed.getD j false = false) → (vals k).ownBlock = some g → w0.heap.size ≤ g ∧ g < w.heap.size
  apart : ∀ (k k' : Nat) (e e' : EntO) (g : Nat), F[k]? = some e → F[k']? = some e' → e.v = none → e'.v = none → listed.getD k false = true → listed.getD k' false = true →
    (∀ j, e.u = some j → listed.getD j false = false) → (∀ j, e'.u = some j → listed.getD j false = false) → k ≠ k' → (vals k).ownBlock = some g → (vals k').ownBlock ≠ some g
theorem keptB_alive {u : Option Nat} {i : Nat} {listed : Array Bool} (h : keptB u (some i) = true) (hi : listed.getD i false = false) : ∀ j, u = some j → listed.getD j false = false := by
  intro j hj
  subst hj
  have : j = i := Nat.eq_of_beq_eq_true h
  rw [this]; exact hi
end
theorem wpAny_done {P : Program} {md : Region.Mode} {ops : Array Oper} {Q : Exit → Act → World → Prop} {listed : Array Bool} {a : Act} {w : World} (hr : Region.ready md ops listed = []) (h : Q .normal a w) : ∀ fuel, wpAny P md ops Q fuel listed a w
  | 0 => ⟨hr, h⟩
  | _ + 1 => ⟨fun _ => h, by rw [hr]; simp⟩
theorem ready_all {ops : Array Oper} {listed : Array Bool} {md : Region.Mode} (h : ∀ k, k < ops.size → listed.getD k true = true) : Region.ready md ops listed = [] := by
  rw [List.eq_nil_iff_forall_not_mem]
  intro j hj
  obtain ⟨h1, o, ho, _⟩ := mem_ready.1 hj
  rw [h j (Array.getElem?_eq_some_iff.1 ho).1] at h1
  cases h1
theorem ready_done {n : Nat} {ops : Array Oper} (hS : ShapeP n ops) {listed : Array Bool} (hsz : listed.size = ops.size) (hr : Region.ready .any ops listed = []) (k : Nat) (hk : k < ops.size) : listed.getD k false = true := by
  induction k using Nat.strongRecOn with
  | _ k ih =>
    cases hv : listed.getD k false with
    | true => rfl
    | false =>
      exfalso
      have hmem : k ∈ Region.ready .any ops listed := by
        refine mem_ready.2 ⟨?_, ops[k], Array.getElem?_eq_getElem hk, fun e he hb => ?_⟩
        · have : k < listed.size := by omega
          simp [this] at hv ⊢; exact hv
        · rw [bindB_eq] at hb
          have hp : e.on ∈ preds ops[k] := mem_predsL.2 ⟨e, by simpa using he, hb, rfl⟩
          have h1 := hS.lt k _ (Array.getElem?_eq_getElem hk) _ hp
          exact ih _ h1 (by omega)
      rw [hr] at hmem
      cases hmem
theorem getD_tf {listed : Array Bool} {i : Nat} (hi : i < listed.size) : listed.getD i true = listed.getD i false := by simp [hi]
/-- one operation more has come up, of entries that do not look at the world -/
theorem InvD.step {n : Nat} {ops : Array Oper} {E : List Ent} {w0 w w' : World} {ρ : Nat → Value} {listed : Array Bool} {vals ρa : Nat → Value} {a : Act} {i : Nat} {o : Oper} {e : Ent} {v : Value} (hS : ShapeP n ops) (hl : E.length = ops.size)
    (hd : ∀ (i : Nat) (o : Oper) (e : Ent), ops[i]? = some o → E[i]? = some e → EntOk e o) (hfree : ∀ (k : Nat) (e : Ent), E[k]? = some e → ∀ x w w', e.φ x w → e.φ x w')
    (I : InvD n E w0 ρ listed vals ρa a w) (hsz : listed.size = ops.size) (ho : ops[i]? = some o) (he : E[i]? = some e) (hun : listed.getD i false = false) (hx : Ext w0 w') (hφ : e.φ v w') :
    InvD n E w0 ρ (listed.setIfInBounds i true) (fun k => if k = i then v else vals k) (match o.dst with | some d => upd ρa d v | none => ρa) (a.put o.dst v) w' := by
  have hio : i < ops.size := (Array.getElem?_eq_some_iff.1 ho).1
  have hok := hd i o e ho he
  have hlt : ∀ (k : Nat) (e : Ent), E[k]? = some e → k < ops.size := fun k e hk => by
    rw [← hl]
    rcases Nat.lt_or_ge k E.length with h | h
    · exact h
    · rw [List.getElem?_eq_none h] at hk; cases hk
  have hgd : ∀ k, (listed.setIfInBounds i true).getD k false = true → k = i ∨ (k ≠ i ∧ listed.getD k false = true) := fun k hk => by
    by_cases hki : k = i
    · exact .inl hki
    · rw [getD_set_ne false (fun e => hki e.symm)] at hk
      exact .inr ⟨hki, hk⟩
  refine ⟨hx, ?_, ?_, ?_, ?_⟩
  · cases hdd : o.dst with
    | none => exact I.st
    | some d => exact I.st.put (hS.dn i o ho d hdd) v
  · intro k hk e' he'
    rcases hgd k hk with rfl | ⟨hki, hk⟩
    · rw [he] at he'
      cases he'
      simpa using hφ
    · simp only [if_neg hki]
      exact hfree k e' he' _ _ _ (I.φ k hk e' he')
  · intro k hk e' d he' hdd
    rcases hgd k hk with rfl | ⟨hki, hk⟩
    · rw [he] at he'
      cases he'
      rw [hok.d] at hdd
      simp [hdd, upd_same]
    · simp only [if_neg hki]
      have hk' := hlt k e' he'
      have hd2 := (hd k _ e' (Array.getElem?_eq_getElem hk') he').d
      cases ho2 : o.dst with
      | none => exact I.at_ k hk e' d he' hdd
      | some d2 =>
        have hne : d ≠ d2 := by
          rintro rfl
          exact hki (hS.uniq i o k _ d ho (Array.getElem?_eq_getElem hk') (hd2 ▸ hdd) ho2)
        simp only
        rw [upd_other _ _ _ _ hne]
        exact I.at_ k hk e' d he' hdd
  · intro t ht
    have h1 : ρa t = ρ t := I.miss t fun k hk e' he' => ht k (by
      by_cases hki : k = i
      · subst hki; rw [hun] at hk; cases hk
      · rw [getD_set_ne false (fun e => hki e.symm)]; exact hk) e' he'
    cases ho2 : o.dst with
    | none => exact h1
    | some d2 =>
      have hne : t ≠ d2 := by
        rintro rfl
        refine ht i ?_ e he (by rw [hok.d, ho2])
        have : i < listed.size := by omega
        simp [this]
      simp only
      rw [upd_other _ _ _ _ hne]
      exact h1

section
variable {P : Program} {n : Nat} {ops : Array Oper} {w0 : World} {F : List EntO} {ρ : Nat → Value}
theorem wpAny_own {Q : (Nat → Value) → World → Prop} {Q' : Exit → Act → World → Prop} (hQ : ∀ ρ a w, St n ρ a → Q ρ w → Q' .normal a w) (hS : ShapeP n ops) {ol : Oper} (hm : F.length + 1 = ops.size) (hol : ops[F.length]? = some ol)
    (hwait : ∀ k, k < F.length → k ∈ preds ol) (hF : ∀ (i : Nat) (o : Oper) (e : EntO), ops[i]? = some o → F[i]? = some e → SpecO P ops.toList w0 F ρ i o e)
    (hlast : ∃ es, AgreeO es F ∧ ∀ w, Ext w0 w → allO w0.heap.size es (some F.length) (idxO es) (sfr (F.map EntO.plain) ρ) w fun ρ' => guardO P ops.toList ol ρ' w fun v w' => Q (updO ρ' ol.dst (some v)) w') :
    ∀ (fuel : Nat) (listed : Array Bool) (vals ρa : Nat → Value) (a : Act) (w : World), listed.size = ops.size → listed.toList.count false ≤ fuel → listed.getD F.length false = false →
      InvD n (F.map EntO.plain ++ [⟨ol.dst, none, fun _ _ => True⟩]) w0 ρ listed vals ρa a w → InvO F w0 listed vals w → wpAny P .any ops Q' fuel listed a w := by
  obtain ⟨E, hE⟩ : ∃ E, E = F.map EntO.plain ++ [(⟨ol.dst, none, fun _ _ => True⟩ : Ent)] := ⟨_, rfl⟩
  rw [← hE]
  have hEl : E.length = ops.size := by rw [hE]; simp; omega
  have hEi : ∀ (i : Nat) (e : EntO), F[i]? = some e → E[i]? = some e.plain := fun i e he => by
    have hi : i < F.length := (List.getElem?_eq_some_iff.1 he).1
    rw [hE, List.getElem?_append_left (by simpa using hi), List.getElem?_map, he]; rfl
  have hEc : ∀ (i : Nat) (e : Ent), E[i]? = some e → (∃ e', F[i]? = some e' ∧ e = e'.plain) ∨ (i = F.length ∧ e = ⟨ol.dst, none, fun _ _ => True⟩) := fun i e he => by
    rcases Nat.lt_or_ge i F.length with hi | hi
    · left
      rw [hE, List.getElem?_append_left (by simpa using hi), List.getElem?_map, List.getElem?_eq_getElem hi] at he
      exact ⟨F[i], List.getElem?_eq_getElem hi, (Option.some.inj he).symm⟩
    · right
      rw [hE, List.getElem?_append_right (by simpa using hi)] at he
      simp only [List.length_map] at he
      have : i - F.length = 0 := by
        rcases Nat.eq_zero_or_pos (i - F.length) with h | h
        · exact h
        · rw [List.getElem?_eq_none (by simp; omega)] at he; cases he
      rw [this] at he
      exact ⟨by omega, (by simpa using he : _ = e).symm⟩
  have hEt : ∀ i, i ≤ F.length → E.take i = (F.take i).map EntO.plain := fun i hi => by
    rw [hE, List.take_append_of_le_length (by simpa using hi), List.map_take]
  have hd : ∀ (i : Nat) (o : Oper) (e : Ent), ops[i]? = some o → E[i]? = some e → EntOk e o := fun i o e ho he => by
    rcases hEc i e he with ⟨e', he', rfl⟩ | ⟨rfl, rfl⟩
    · have := (hF i o e' ho he').1
      exact ⟨this.d, fun _ _ _ h _ => h, fun x hx u w hu => hu x hx⟩
    · rw [hol] at ho; cases ho
      exact ⟨rfl, fun _ _ _ h _ => h, fun x hx => by cases hx⟩
  have hfree : ∀ (k : Nat) (e : Ent), E[k]? = some e → ∀ x w w', e.φ x w → e.φ x w' := fun k e he x w w' h => by
    rcases hEc k e he with ⟨e', he', rfl⟩ | ⟨rfl, rfl⟩
    · exact h
    · trivial
  have hlt : ∀ (k : Nat) (e : Ent), E[k]? = some e → k < ops.size := fun k e hk => by
    rw [← hEl]; exact (List.getElem?_eq_some_iff.1 hk).1
  intro fuel
  induction fuel with
  | zero =>
    intro listed vals ρa a w hsz hc hlm I J
    exfalso
    have hk' : F.length < listed.size := by omega
    have h1 := List.count_eq_zero.1 (show listed.toList.count false = 0 by omega)
    refine h1 ?_
    have : listed[F.length] = false := by simpa [hk'] using hlm
    rw [← this]; exact Array.mem_toList_iff.2 (Array.getElem_mem hk')
  | succ fuel ih =>
    intro listed vals ρa a w hsz hc hlm I J
    refine ⟨fun hr => ?_, fun i hi => ?_⟩
    · have := ready_done hS hsz hr F.length (by omega)
      rw [hlm] at this; cases this
    obtain ⟨hun, o, ho, hall⟩ := mem_ready.1 hi
    have hio : i < ops.size := (Array.getElem?_eq_some_iff.1 ho).1
    have hnl : listed.getD i false = false := by rw [← getD_tf (by omega)]; exact hun
    have hpl : ∀ k ∈ preds o, listed.getD k false = true := fun k hk => by
      obtain ⟨e, he, hb, hon⟩ := mem_predsL.1 hk
      rw [← hon]
      exact hall e (by simpa using he) (by rw [bindB_eq]; exact hb)
    rcases Nat.lt_or_ge i F.length with hiF | hiF
    · -- an operation that is not the last
      have hFi : F[i]? = some F[i] := List.getElem?_eq_getElem hiF
      obtain ⟨e, he⟩ : ∃ e, e = F[i] := ⟨_, rfl⟩
      rw [← he] at hFi
      obtain ⟨hok, es, hAg, hspec⟩ := hF i o e ho hFi
      have hget : ∀ (k : Nat) (e' : EntO), (F.take i)[k]? = some e' → F[k]? = some e' ∧ k < i := fun k e' h => by
        rw [List.getElem?_take] at h
        split at h
        · exact ⟨h, by assumption⟩
        · cases h
      have h := allO_fr (vals := vals) hAg (preds o) _ (fun k hk e' he' hv hkb => by
        obtain ⟨h1, _⟩ := hget k e' he'
        have hal := keptB_alive hkb hnl
        exact ⟨J.φ k e' h1 (hpl k hk) hal, fun g hg => J.own k e' g h1 hv (hpl k hk) hal hg⟩) (hspec w I.ext)
      have hfrm : ∀ t, (∀ (k : Nat) (e' : Ent), E[k]? = some e' → e'.d = some t → k ∈ preds o) → fr ((F.take i).map EntO.plain) vals (preds o) (sfr ((F.take i).map EntO.plain) ρ) t = ρa t := fun t hp => by
        rw [← hEt i (by omega)]
        exact frame_at hd hEl hS I i (preds o) t (fun k e hk hdt _ => ⟨hpl k (hp k e hk hdt), fun _ => hp k e hk hdt⟩) (fun k e hk hdt _ => hS.lt i o ho k (hp k e hk hdt))
      have hag : ∀ t ∈ o.looksAt ops, fr ((F.take i).map EntO.plain) vals (preds o) (sfr ((F.take i).map EntO.plain) ρ) t = ρa t := fun t ht => hfrm t fun k e' hk hdt => by
        have hk' := hlt k e' hk
        exact hS.look i o k ops[k] t ho (Array.getElem?_eq_getElem hk') ((hd k _ e' (Array.getElem?_eq_getElem hk') hk).d ▸ hdt) ht
      refine guardO_ok ho hS I.st hag h fun v w' ⟨hchg, hφ, hown⟩ => ?_
      -- what is used up
      have hB : ∀ g, some g ∈ usedB es i (preds o) (fr ((F.take i).map EntO.plain) vals (preds o) (sfr ((F.take i).map EntO.plain) ρ)) →
          ∃ k e', F[k]? = some e' ∧ e'.v = none ∧ e'.u = some i ∧ listed.getD k false = true ∧ (vals k).ownBlock = some g := fun g hg => by
        obtain ⟨k, d, φ, hk, hlk, ho'⟩ := usedB_mem _ hg
        have hFk := hAg.look.1 hlk
        obtain ⟨h1, _⟩ := hget k _ hFk
        refine ⟨k, _, h1, rfl, rfl, hpl k hk, ?_⟩
        have hra := I.at_ k (hpl k hk) _ d (hEi k _ h1) rfl
        rw [← hra, ← hfrm d fun k' e' hk' hdt => ?_]
        · exact ho'
        · have hlk' := hlt k' e' hk'
          have hlk2 := hlt k _ (hEi k _ h1)
          have hd1 := (hd k' _ e' (Array.getElem?_eq_getElem hlk') hk').d
          have hd2 := (hd k _ _ (Array.getElem?_eq_getElem hlk2) (hEi k _ h1)).d
          have : k' = k := hS.uniq k _ k' _ d (Array.getElem?_eq_getElem hlk2) (Array.getElem?_eq_getElem hlk') (hd1 ▸ hdt) (by rw [← hd2]; rfl)
          rw [this]; exact hk
      have alive_i : ∀ e' : EntO, e'.u = some i → ∀ j, e'.u = some j → listed.getD j false = false := fun e' hu j hj => by
        rw [hu] at hj; cases hj; exact hnl
      have hBge : ∀ g, some g ∈ usedB es i (preds o) (fr ((F.take i).map EntO.plain) vals (preds o) (sfr ((F.take i).map EntO.plain) ρ)) → w0.heap.size ≤ g ∧ g < w.heap.size := fun g hg => by
        obtain ⟨k, e', h1, h2, h3, h4, h5⟩ := hB g hg
        exact J.own k e' g h1 h2 h4 (alive_i e' h3) h5
      have hx : Ext w0 w' := ⟨hchg.os.trans I.ext.os, hchg.tape.trans I.ext.tape, hchg.output.trans I.ext.output, Nat.le_trans I.ext.size hchg.size, fun k hk => by
        rw [hchg.block k (Nat.lt_of_lt_of_le hk I.ext.size) (fun hmem => by have := (hBge k hmem).1; omega)]
        exact I.ext.block k hk⟩
      have hgd : ∀ k, (listed.setIfInBounds i true).getD k false = true → k = i ∨ (k ≠ i ∧ listed.getD k false = true) := fun k hk => by
        by_cases hki : k = i
        · exact .inl hki
        · rw [getD_set_ne false (fun e => hki e.symm)] at hk
          exact .inr ⟨hki, hk⟩
      have hal : ∀ (e' : EntO), (∀ j, e'.u = some j → (listed.setIfInBounds i true).getD j false = false) → (∀ j, e'.u = some j → listed.getD j false = false) ∧ e'.u ≠ some i := fun e' h => by
        refine ⟨fun j hj => ?_, fun hu => ?_⟩
        · have := h j hj
          by_cases hji : j = i
          · subst hji; exact hnl
          · rwa [getD_set_ne false (fun e => hji e.symm)] at this
        · have := h i hu
          have hil : i < listed.size := by omega
          simp [hil] at this
      have hsome : e.v = none → e.v.isSome = false := fun h => by rw [h]; rfl
      refine ih _ _ _ _ _ (by simp [hsz]) (by have := countP_set listed i hun; omega) (by rw [getD_set_ne false (by omega)]; exact hlm) (InvD.step hS hEl hd hfree I hsz ho (hEi i e hFi) hnl hx (fun c hc => hok.v c hc v w' hφ)) ⟨?_, ?_, ?_⟩
      · intro k e' hk hlk halv
        obtain ⟨ha1, ha2⟩ := hal e' halv
        rcases hgd k hlk with rfl | ⟨hki, hlk⟩
        · rw [hFi] at hk; cases hk
          simpa using hφ
        · simp only [if_neg hki]
          have hold := J.φ k e' hk hlk ha1
          have hk' : k < ops.size := by have := (List.getElem?_eq_some_iff.1 hk).1; omega
          have hok' := (hF k ops[k] e' (Array.getElem?_eq_getElem hk') hk).1
          by_cases hv : e'.v = none
          · refine hok'.loc _ w w' hold (fun b hb hor => hchg.block b hb fun hmem => ?_) hchg.size
            obtain ⟨k2, e2, h1, h2, h3, h4, h5⟩ := hB b hmem
            rcases hor with hlt' | hob
            · have := (hBge b hmem).1; omega
            · have hne : k ≠ k2 := by
                rintro rfl
                rw [hk] at h1; cases h1
                exact ha2 h3
              exact J.apart k k2 e' e2 b hk h1 hv h2 hlk h4 ha1 (alive_i e2 h3) hne hob h5
          · exact hok'.st hv _ _ _ hold
      · intro k e' g hk hv hlk halv hg
        obtain ⟨ha1, ha2⟩ := hal e' halv
        rcases hgd k hlk with rfl | ⟨hki, hlk⟩
        · rw [hFi] at hk; cases hk
          simp only [if_true] at hg
          obtain ⟨h1, h2⟩ := hown (hsome hv) g hg
          refine ⟨?_, h1⟩
          rcases h2 with h2 | h2
          · exact (hBge g h2).1
          · have := I.ext.size; omega
        · simp only [if_neg hki] at hg
          have := J.own k e' g hk hv hlk ha1 hg
          have := hchg.size
          omega
      · intro k k' e1 e2 g hk hk' hv hv' hlk hlk' hal1 hal2 hne hg hg'
        obtain ⟨ha1, ha1'⟩ := hal e1 hal1
        obtain ⟨ha2, ha2'⟩ := hal e2 hal2
        have new : ∀ (k : Nat) (e1 : EntO), F[k]? = some e1 → e1.v = none → listed.getD k false = true → (∀ j, e1.u = some j → listed.getD j false = false) → e1.u ≠ some i → e.v = none → v.ownBlock = some g → (vals k).ownBlock ≠ some g := fun k e1 hk hv hlk ha ha' hev hg hg' => by
          obtain ⟨_, h2⟩ := hown (hsome hev) g hg
          rcases h2 with h2 | h2
          · obtain ⟨k2, e2, q1, q2, q3, q4, q5⟩ := hB g h2
            have hne : k ≠ k2 := by
              rintro rfl
              rw [hk] at q1; cases q1
              exact ha' q3
            exact J.apart k k2 e1 e2 g hk q1 hv q2 hlk q4 ha (alive_i e2 q3) hne hg' q5
          · have := (J.own k e1 g hk hv hlk ha hg').2
            omega
        rcases hgd k hlk with rfl | ⟨hki, hlk2⟩
        · rw [hFi] at hk; cases hk
          rcases hgd k' hlk' with rfl | ⟨hki', hlk2'⟩
          · exact hne rfl
          · simp only [if_true, if_neg hki'] at hg hg'
            exact new k' e2 hk' hv' hlk2' ha2 ha2' hv hg hg'
        · rcases hgd k' hlk' with rfl | ⟨hki', hlk2'⟩
          · rw [hFi] at hk'; cases hk'
            simp only [if_true, if_neg hki] at hg hg'
            exact new k e1 hk hv hlk2 ha1 ha1' hv' hg' hg
          · simp only [if_neg hki, if_neg hki'] at hg hg'
            exact J.apart k k' e1 e2 g hk hk' hv hv' hlk2 hlk2' ha1 ha2 hne hg hg'
    · -- the last one
      have hil : i = F.length := by omega
      subst hil
      rw [hol] at ho; cases ho
      obtain ⟨es, hAg, hspec⟩ := hlast
      have hlk : ∀ (k : Nat) (e' : EntO), F[k]? = some e' → listed.getD k false = true := fun k e' hk => hpl k (hwait k (List.getElem?_eq_some_iff.1 hk).1)
      have h := allO_fr (vals := vals) hAg (idxO es) _ (fun k _ e' he' hv hkb => by
        have hal := keptB_alive hkb hnl
        exact ⟨J.φ k e' he' (hlk k e' he') hal, fun g hg => J.own k e' g he' hv (hlk k e' he') hal hg⟩) (hspec w I.ext)
      have hfr : fr (F.map EntO.plain) vals (idxO es) (sfr (F.map EntO.plain) ρ) = ρa := by
        funext t
        have := frame_at hd hEl hS I F.length (idxO es) t (fun k e hk hdt hki => ?_) (fun k e hk hdt hlk' => ?_)
        · rw [hEt _ (Nat.le_refl _), List.take_length] at this; exact this
        · rcases hEc k e hk with ⟨e', he', rfl⟩ | ⟨rfl, _⟩
          · refine ⟨hlk k e' he', fun hv => ?_⟩
            obtain ⟨ed, ev, eu, eφ⟩ := e'
            simp only [EntO.plain] at hdt hv
            subst hdt hv
            exact mem_idxO (hAg.look.2 he')
          · omega
        · rcases hEc k e hk with ⟨e', he', rfl⟩ | ⟨rfl, _⟩
          · exact (List.getElem?_eq_some_iff.1 he').1
          · rw [hnl] at hlk'; cases hlk'
      rw [hfr] at h
      refine guardO_ok hol hS I.st (fun _ _ => rfl) h fun v w' hq => ?_
      refine wpAny_done (ready_all fun k hk => ?_) ?_ _
      · have hk' : k < listed.size := by omega
        by_cases hki : k = F.length
        · subst hki; simp [hk']
        · rw [getD_set_ne true (fun e => hki e.symm), getD_tf hk']
          exact hpl k (hwait k (by omega))
      · refine hQ _ _ _ ?_ hq
        cases hdd : ol.dst with
        | none => exact I.st
        | some d => exact I.st.put (hS.dn _ ol hol d hdd) v
end

/-- the last operation waits for all others -/
def lastB (ops : Array Oper) : Bool :=
  match ops[ops.size - 1]? with
  | some o => (List.range (ops.size - 1)).all fun k => (preds o).contains k
  | none => false
/-- What is asked at a region that draws its order and changes what it has made; its last operation may do anything. -/
theorem DrawV.own {P : Program} {n id : Nat} {ops : Array Oper} {Q : Exit → (Nat → Value) → World → Prop} {ρ : Nat → Value} {w : World} (hm : P.follows .mixedOrders = true) (hB : (shapeD n ops && lastB ops) = true)
    (h : regO P ops.toList w.drew (fun ρ' w' => Q .normal ρ' w') ops.toList 0 [] ρ) : DrawV P n id ops Q ρ w := by
  refine ⟨fun a ha => wp_region_any hm ?_⟩
  simp only [Bool.and_eq_true] at hB
  obtain ⟨F, ol, h1, h2, h3, h4⟩ := regO_all ops.toList [] [] ρ (fun k => rfl) h
  have hsz : F.length + 1 = ops.size := by simpa using h1
  have hol : ops[F.length]? = some ol := by simpa using h2
  refine wpAny_own (Q := fun ρ' w' => Q .normal ρ' w') (F := F) (w0 := w.drew) (ρ := ρ) (fun ρ a w h1 h2 => ⟨ρ, h1, h2⟩) (shapeD_ok hB.1) hsz hol (fun k hk => ?_) (fun i o e ho he => ?_) (by simpa using h4) _ _ (fun _ => undef) ρ a _ (by simp) (by simp) ?_ ⟨Ext.refl _, ha, ?_, ?_, fun t _ => rfl⟩ ⟨?_, ?_, ?_⟩
  · have hl := hB.2
    unfold lastB at hl
    rw [show ops.size - 1 = F.length by omega, hol] at hl
    simpa using List.all_eq_true.1 hl k (List.mem_range.2 hk)
  · have := h3 i o e (by simpa using ho) he
    simpa using this
  · exact getD_replicate_false' _ _
  · intro k hk; rw [getD_replicate_false'] at hk; cases hk
  · intro k hk; rw [getD_replicate_false'] at hk; cases hk
  · intro k e _ hk; rw [getD_replicate_false'] at hk; cases hk
  · intro k e g _ _ hk; rw [getD_replicate_false'] at hk; cases hk
  · intro k k' e e' g _ _ _ _ hk; rw [getD_replicate_false'] at hk; cases hk
end V
end Go.Proofs.YtajgbepghniciaaGreatDoor
