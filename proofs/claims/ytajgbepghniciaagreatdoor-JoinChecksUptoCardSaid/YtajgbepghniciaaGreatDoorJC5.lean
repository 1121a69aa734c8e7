/- Lemmas and contracts of functions on the way to the law's card (part 5 of 17). -/
import Derived.Test.YtajgbepghniciaaGreatDoorJC4
import Derived.Orders
namespace Go.Proofs.YtajgbepghniciaaGreatDoor
open Go.RowKit
namespace V

def bindB (e : Edge) : Bool :=
  match e.ground with
  | .textOnly _ | .gcOnly _ => false
  | _ => true
theorem bindB_eq (e : Edge) : Region.binds .any e = bindB e := by
  unfold Region.binds bindB
  cases e.ground <;> rfl
def predsL : List Edge → List Nat
  | [] => []
  | e :: l => bif bindB e then e.on :: predsL l else predsL l
def preds (o : Oper) : List Nat := predsL o.after.toList
theorem mem_predsL {l : List Edge} {k : Nat} : k ∈ predsL l ↔ ∃ e ∈ l, bindB e = true ∧ e.on = k := by
  induction l with
  | nil => simp [predsL]
  | cons e l ih =>
    simp only [predsL]
    cases hb : bindB e
    · simp only [cond_false, ih, List.mem_cons]
      constructor
      · rintro ⟨e', h1, h2, h3⟩; exact ⟨e', .inr h1, h2, h3⟩
      · rintro ⟨e', rfl | h1, h2, h3⟩
        · rw [hb] at h2; cases h2
        · exact ⟨e', h1, h2, h3⟩
    · simp only [cond_true, List.mem_cons, ih]
      constructor
      · rintro (rfl | ⟨e', h1, h2, h3⟩)
        · exact ⟨e, .inl rfl, hb, rfl⟩
        · exact ⟨e', .inr h1, h2, h3⟩
      · rintro ⟨e', rfl | h1, h2, h3⟩
        · exact .inl h3.symm
        · exact .inr ⟨e', h1, h2, h3⟩

/-- What is known of an operation that has come up: its slot; its value, if that is settled; what holds of the value from then on. -/
structure Ent where
  d : Option Tmp
  v : Option Value
  φ : Value → World → Prop
def allv (es : List Ent) : List Nat → (Nat → Value) → World → ((Nat → Value) → Prop) → Prop
  | [], ρ, _, K => K ρ
  | k :: ks, ρ, w, K =>
    match getL es k with
    | some ⟨some d, none, φ⟩ => ∀ v, φ v w → allv es ks (upd ρ d v) w K
    | _ => allv es ks ρ w K
def frS (es : List Ent) (vals : Nat → Value) (k : Nat) (ρ : Nat → Value) : Nat → Value :=
  match getL es k with
  | some ⟨some d, none, _⟩ => upd ρ d (vals k)
  | _ => ρ
def fr (es : List Ent) (vals : Nat → Value) : List Nat → (Nat → Value) → (Nat → Value)
  | [], ρ => ρ
  | k :: ks, ρ => fr es vals ks (frS es vals k ρ)
theorem frS_some {es : List Ent} {vals : Nat → Value} {k d : Nat} {φ : Value → World → Prop} {ρ : Nat → Value} (h : getL es k = some ⟨some d, none, φ⟩) : frS es vals k ρ = upd ρ d (vals k) := by simp [frS, h]
theorem frS_none {es : List Ent} {vals : Nat → Value} {k : Nat} {ρ : Nat → Value} (h : ∀ d φ, getL es k ≠ some ⟨some d, none, φ⟩) : frS es vals k ρ = ρ := by
  unfold frS
  split
  · rename_i d φ hk; exact absurd hk (h _ _)
  · rfl
theorem allv_fr {es : List Ent} {vals : Nat → Value} {w : World} {K : (Nat → Value) → Prop} : ∀ (ks : List Nat) (ρ : Nat → Value),
    (∀ k ∈ ks, ∀ e, getL es k = some e → e.φ (vals k) w) → allv es ks ρ w K → K (fr es vals ks ρ) := by
  intro ks
  induction ks with
  | nil => intro ρ _ h; exact h
  | cons k ks ih =>
    intro ρ hv h
    have hv' : ∀ k ∈ ks, ∀ e, getL es k = some e → e.φ (vals k) w := fun k hk => hv k (List.mem_cons_of_mem _ hk)
    unfold allv at h
    unfold fr
    split at h
    · rename_i d φ hk
      rw [frS_some hk]
      exact ih _ hv' (h (vals k) (hv k (List.mem_cons_self ..) _ hk))
    · rename_i hk
      rw [frS_none hk]
      exact ih _ hv' h
theorem upd_same (ρ : Nat → Value) (d : Nat) (v : Value) : upd ρ d v d = v := by simp [upd]
theorem upd_other (ρ : Nat → Value) (d t : Nat) (v : Value) (h : t ≠ d) : upd ρ d v t = ρ t := by
  unfold upd
  have e' : Nat.beq t d = false := Bool.eq_false_iff.2 fun e => h (Nat.eq_of_beq_eq_true e)
  rw [e']; rfl
theorem fr_miss {es : List Ent} {vals : Nat → Value} {t : Nat} : ∀ (ks : List Nat) (ρ : Nat → Value), (∀ k ∈ ks, ∀ φ, getL es k ≠ some ⟨some t, none, φ⟩) → fr es vals ks ρ t = ρ t := by
  intro ks
  induction ks with
  | nil => intro ρ _; rfl
  | cons k ks ih =>
    intro ρ h
    have h' : ∀ k ∈ ks, ∀ φ, getL es k ≠ some ⟨some t, none, φ⟩ := fun k hk => h k (List.mem_cons_of_mem _ hk)
    unfold fr
    rw [ih _ h']
    by_cases hk : ∃ d φ, getL es k = some ⟨some d, none, φ⟩
    · obtain ⟨d, φ, hk⟩ := hk
      rw [frS_some hk, upd_other]
      rintro rfl
      exact h k (List.mem_cons_self ..) φ hk
    · rw [frS_none (fun d φ e => hk ⟨d, φ, e⟩)]
theorem fr_hit {es : List Ent} {vals : Nat → Value} {t k0 : Nat} {x : Value} (hx : x = vals k0) (hu : ∀ k φ, getL es k = some ⟨some t, none, φ⟩ → k = k0) : ∀ (ks : List Nat) (ρ : Nat → Value),
    (ρ t = x ∨ (k0 ∈ ks ∧ ∃ φ, getL es k0 = some ⟨some t, none, φ⟩)) → fr es vals ks ρ t = x := by
  intro ks
  induction ks with
  | nil =>
    intro ρ h
    rcases h with h | ⟨h, _⟩
    · exact h
    · cases h
  | cons k ks ih =>
    intro ρ h
    unfold fr
    by_cases hk : ∃ d φ, getL es k = some ⟨some d, none, φ⟩
    · obtain ⟨d, φ, hk⟩ := hk
      rw [frS_some hk]
      by_cases hd : t = d
      · subst hd
        have := hu k φ hk
        subst this
        exact ih _ (.inl (by rw [upd_same, hx]))
      · refine ih _ ?_
        rcases h with h | ⟨h, φ0, h0⟩
        · exact .inl (by rw [upd_other _ _ _ _ hd]; exact h)
        · rcases List.mem_cons.1 h with rfl | h
          · rw [hk] at h0; cases h0; exact absurd rfl hd
          · exact .inr ⟨h, φ0, h0⟩
    · rw [frS_none (fun d φ e => hk ⟨d, φ, e⟩)]
      refine ih _ ?_
      rcases h with h | ⟨h, φ0, h0⟩
      · exact .inl h
      · rcases List.mem_cons.1 h with rfl | h
        · exact absurd ⟨_, _, h0⟩ hk
        · exact .inr ⟨h, φ0, h0⟩

/-- An operation, under its guard. -/
def guardO (P : Program) (ops : List Oper) (o : Oper) (ρ : Nat → Value) (w : World) (K : Value → World → Prop) : Prop :=
  match o.guard with
  | none => opV P o ρ w K
  | some (j, want) =>
    match getL ops j with
    | none => K undef w
    | some oj => match oj.dst with
      | none => K undef w
      | some d =>
        match ρ d with
        | .bool b => Tst b
            (match want with
              | true => opV P o ρ w K
              | false => K undef w)
            (match want with
              | true => K undef w
              | false => opV P o ρ w K)
        | _ => K undef w
/-- A step of the region's text: the value is settled, or something is known of it. -/
structure StepD (A : (Value → World → Prop) → Prop) (K : Option Value → (Value → World → Prop) → Prop) : Prop where
  h : (∃ v, A (fun u _ => u = v) ∧ K (some v) (fun u _ => u = v)) ∨ (∃ φ : Value → World → Prop, (∀ v w w', φ v w → Ext w w' → φ v w') ∧ A φ ∧ K none φ)
theorem StepD.still {A : (Value → World → Prop) → Prop} {K : Option Value → (Value → World → Prop) → Prop} (v : Value) (h : A (fun u _ => u = v)) (hk : K (some v) (fun u _ => u = v)) : StepD A K := ⟨.inl ⟨v, h, hk⟩⟩
theorem StepD.of {A : (Value → World → Prop) → Prop} {K : Option Value → (Value → World → Prop) → Prop} (φ : Value → World → Prop) (hs : ∀ v w w', φ v w → Ext w w' → φ v w') (h : A φ) (hk : K none φ) : StepD A K := ⟨.inr ⟨φ, hs, h, hk⟩⟩

def updO (ρ : Nat → Value) : Option Tmp → Option Value → Nat → Value
  | some d, some v => upd ρ d v
  | _, _ => ρ
/-- the entries that are not settled, by their numbers -/
def lookA : List (Nat × Nat × (Value → World → Prop)) → Nat → Option (Nat × (Value → World → Prop))
  | [], _ => none
  | (i, d, φ) :: es, k => bif Nat.beq i k then some (d, φ) else lookA es k
def allA (es : List (Nat × Nat × (Value → World → Prop))) : List Nat → (Nat → Value) → World → ((Nat → Value) → Prop) → Prop
  | [], ρ, _, K => K ρ
  | k :: ks, ρ, w, K =>
    match lookA es k with
    | some (d, φ) => ∀ v, φ v w → allA es ks (upd ρ d v) w K
    | none => allA es ks ρ w K
def idxs : List (Nat × Nat × (Value → World → Prop)) → List Nat
  | [] => []
  | (i, _, _) :: es => i :: idxs es
def pushA (k : Nat) (φ : Value → World → Prop) (es : List (Nat × Nat × (Value → World → Prop))) : Option Tmp → Option Value → List (Nat × Nat × (Value → World → Prop))
  | some d, none => (k, d, φ) :: es
  | _, _ => es
def regD (P : Program) (ops : List Oper) (w0 : World) (Q : (Nat → Value) → World → Prop) : List Oper → Nat → List (Nat × Nat × (Value → World → Prop)) → (Nat → Value) → Prop
  | [], _, es, ρ => ∀ w, Ext w0 w → allA es (idxs es) ρ w fun ρ' => Q ρ' w
  | o :: l, k, es, ρ => StepD
      (fun φ => ∀ w, Ext w0 w → allA es (preds o) ρ w fun ρ' => guardO P ops o ρ' w fun v w' => Ext w w' ∧ φ v w')
      (fun v φ => regD P ops w0 Q l (k + 1) (pushA k φ es o.dst v) (updO ρ o.dst v))

def sfr : List Ent → (Nat → Value) → (Nat → Value)
  | [], ρ => ρ
  | e :: l, ρ => sfr l (updO ρ e.d e.v)
theorem sfr_append (a b : List Ent) (ρ : Nat → Value) : sfr (a ++ b) ρ = sfr b (sfr a ρ) := by
  induction a generalizing ρ with
  | nil => rfl
  | cons e a ih => simp [sfr, ih]

structure EntOk (e : Ent) (o : Oper) : Prop where
  d : e.d = o.dst
  st : ∀ v w w', e.φ v w → Ext w w' → e.φ v w'
  v : ∀ x, e.v = some x → ∀ u w, e.φ u w → u = x
section
variable {P : Program} {n : Nat} {ops : List Oper} {w0 : World}
/-- the two ways in which the entries are kept -/
def Agree (es : List (Nat × Nat × (Value → World → Prop))) (F : List Ent) : Prop :=
  ∀ k, (match getL F k with | some ⟨some d, none, φ⟩ => lookA es k = some (d, φ) | _ => lookA es k = none)
theorem allA_eq {es : List (Nat × Nat × (Value → World → Prop))} {F : List Ent} (h : Agree es F) {w : World} {K : (Nat → Value) → Prop} : ∀ (ks : List Nat) (ρ : Nat → Value), allA es ks ρ w K → allv F ks ρ w K := by
  intro ks
  induction ks with
  | nil => intro ρ h; exact h
  | cons k ks ih =>
    intro ρ ha
    have hk := h k
    unfold allA at ha
    unfold allv
    split
    · rename_i d φ hg
      rw [hg] at hk
      simp only at hk
      rw [hk] at ha
      exact fun v hv => ih _ (ha v hv)
    · rename_i hg
      split at hk
      · rename_i d φ hg'; exact absurd hg' (hg d φ)
      · rw [hk] at ha; exact ih _ ha
theorem mem_idxs {es : List (Nat × Nat × (Value → World → Prop))} {k d : Nat} {φ : Value → World → Prop} (h : lookA es k = some (d, φ)) : k ∈ idxs es := by
  induction es with
  | nil => cases h
  | cons x es ih =>
    obtain ⟨i, d', φ'⟩ := x
    simp only [lookA] at h
    cases hb : Nat.beq i k <;> rw [hb] at h
    · exact List.mem_cons_of_mem _ (ih h)
    · rw [Nat.eq_of_beq_eq_true hb]; exact List.mem_cons_self ..
theorem Agree.push {es : List (Nat × Nat × (Value → World → Prop))} {F : List Ent} (h : Agree es F) (dst : Option Tmp) (v : Option Value) (φ : Value → World → Prop) : Agree (pushA F.length φ es dst v) (F ++ [⟨dst, v, φ⟩]) := by
  intro k
  have hk := h k
  have hg : ∀ k, k < F.length → getL (F ++ [⟨dst, v, φ⟩]) k = getL F k := fun k hk => by rw [getL_eq, getL_eq, List.getElem?_append_left hk]
  have hlast : getL (F ++ [⟨dst, v, φ⟩]) F.length = some ⟨dst, v, φ⟩ := by rw [getL_eq, List.getElem?_append_right (Nat.le_refl _)]; simp
  have hnone : ∀ k, F.length ≤ k → getL F k = none := fun k hk => by rw [getL_eq, List.getElem?_eq_none hk]
  have hout : ∀ k, F.length < k → getL (F ++ [⟨dst, v, φ⟩]) k = none := fun k hk => by rw [getL_eq, List.getElem?_eq_none (by simp; omega)]
  have hL : lookA es F.length = none := by have := h F.length; rw [hnone _ (Nat.le_refl _)] at this; exact this
  have other : k ≠ F.length → lookA (pushA F.length φ es dst v) k = lookA es k := fun hne => by
    unfold pushA
    split
    · have : Nat.beq F.length k = false := Bool.eq_false_iff.2 fun e => hne (Nat.eq_of_beq_eq_true e).symm
      simp only [lookA, this, cond_false]
    · rfl
  rcases Nat.lt_trichotomy k F.length with hlt | rfl | hgt
  · rw [hg k hlt, other (by omega)]; exact hk
  · rw [hlast]
    have hrefl : Nat.beq F.length F.length = true := by simp
    cases dst with
    | none => exact hL
    | some d =>
      cases v with
      | none => simp only [pushA, lookA, hrefl, cond_true]
      | some v => exact hL
  · rw [hout k hgt, other (by omega)]
    rw [hnone k (by omega)] at hk
    exact hk
/-- The whole text's entries. -/
theorem regD_all {Q : (Nat → Value) → World → Prop} (l : List Oper) : ∀ (es : List (Nat × Nat × (Value → World → Prop))) (F : List Ent) (ρ0 : Nat → Value), Agree es F → regD P ops w0 Q l F.length es (sfr F ρ0) →
    ∃ E : List Ent, E.length = l.length ∧ (∀ i o e, l[i]? = some o → E[i]? = some e → EntOk e o ∧
      ∀ w, Ext w0 w → allv (F ++ E.take i) (preds o) (sfr (F ++ E.take i) ρ0) w fun ρ' => guardO P ops o ρ' w fun v w' => Ext w w' ∧ e.φ v w') ∧
      ∃ ks : List Nat, (∀ k d φ, getL (F ++ E) k = some ⟨some d, none, φ⟩ → k ∈ ks) ∧ ∀ w, Ext w0 w → allv (F ++ E) ks (sfr (F ++ E) ρ0) w fun ρ' => Q ρ' w := by
  induction l with
  | nil =>
    intro es F ρ0 hA h
    refine ⟨[], rfl, fun i o e hi => by simp at hi, idxs es, ?_, ?_⟩
    · intro k d φ hk
      rw [List.append_nil] at hk
      have := hA k
      rw [hk] at this
      exact mem_idxs this
    · intro w hw
      rw [List.append_nil]
      exact allA_eq hA _ _ (h w hw)
  | cons o l ih =>
    intro es F ρ0 hAg h
    have key : ∀ (v : Option Value) (φ : Value → World → Prop), EntOk ⟨o.dst, v, φ⟩ o →
        (∀ w, Ext w0 w → allA es (preds o) (sfr F ρ0) w fun ρ' => guardO P ops o ρ' w fun v w' => Ext w w' ∧ φ v w') →
        regD P ops w0 Q l (F.length + 1) (pushA F.length φ es o.dst v) (updO (sfr F ρ0) o.dst v) →
        ∃ E : List Ent, E.length = (o :: l).length ∧ (∀ i o' e, (o :: l)[i]? = some o' → E[i]? = some e → EntOk e o' ∧
          ∀ w, Ext w0 w → allv (F ++ E.take i) (preds o') (sfr (F ++ E.take i) ρ0) w fun ρ' => guardO P ops o' ρ' w fun v w' => Ext w w' ∧ e.φ v w') ∧
          ∃ ks : List Nat, (∀ k d φ, getL (F ++ E) k = some ⟨some d, none, φ⟩ → k ∈ ks) ∧ ∀ w, Ext w0 w → allv (F ++ E) ks (sfr (F ++ E) ρ0) w fun ρ' => Q ρ' w := fun v φ hok hA hK => by
      have e1 : updO (sfr F ρ0) o.dst v = sfr (F ++ [⟨o.dst, v, φ⟩]) ρ0 := by rw [sfr_append]; rfl
      have e2 : F.length + 1 = (F ++ [(⟨o.dst, v, φ⟩ : Ent)]).length := by simp
      rw [e1, e2] at hK
      obtain ⟨E, h1, h2, ks, h3, h4⟩ := ih _ _ ρ0 (hAg.push o.dst v φ) hK
      refine ⟨⟨o.dst, v, φ⟩ :: E, by simp [h1], fun i o' e hi he => ?_, ks, by simpa using h3, by simpa using h4⟩
      cases i with
      | zero =>
        simp at hi he
        subst hi he
        refine ⟨hok, fun w hw => ?_⟩
        rw [List.take_zero, List.append_nil]
        exact allA_eq hAg _ _ (hA w hw)
      | succ i =>
        simp at hi he
        obtain ⟨k1, k2⟩ := h2 i o' e hi he
        exact ⟨k1, by simpa using k2⟩
    obtain ⟨v, hA, hK⟩ | ⟨φ, hs, hA, hK⟩ := h.h
    · exact key (some v) _ ⟨rfl, fun _ _ _ h _ => h, fun x hx u w hu => by cases hx; exact hu⟩ hA hK
    · exact key none φ ⟨rfl, hs, fun x hx => by cases hx⟩ hA hK
end

theorem sfr_miss {t : Nat} : ∀ (es : List Ent) (ρ : Nat → Value), (∀ e ∈ es, e.d = some t → e.v = none) → sfr es ρ t = ρ t := by
  intro es
  induction es with
  | nil => intro ρ _; rfl
  | cons e es ih =>
    intro ρ h
    rw [sfr, ih _ (fun e' he' => h e' (List.mem_cons_of_mem _ he'))]
    have he := h e (List.mem_cons_self ..)
    obtain ⟨d, v, φ⟩ := e
    cases d with
    | none => rfl
    | some d => cases v with
      | none => rfl
      | some v =>
        have hne : t ≠ d := by rintro rfl; have := he rfl; cases this
        exact upd_other _ _ _ _ hne
theorem sfr_hit {t : Nat} {x : Value} : ∀ (es : List Ent) (ρ : Nat → Value), (∀ e ∈ es, e.d = some t → e.v = some x) → (ρ t = x ∨ ∃ e ∈ es, e.d = some t) → sfr es ρ t = x := by
  intro es
  induction es with
  | nil =>
    intro ρ _ h
    rcases h with h | ⟨e, he, _⟩
    · exact h
    · cases he
  | cons e es ih =>
    intro ρ hu h
    rw [sfr]
    refine ih _ (fun e' he' => hu e' (List.mem_cons_of_mem _ he')) ?_
    have he := hu e (List.mem_cons_self ..)
    obtain ⟨d, v, φ⟩ := e
    by_cases hd : d = some t
    · subst hd
      have := he rfl
      simp only at this
      subst this
      exact .inl (upd_same _ _ _)
    · rcases h with h | ⟨e', he', hd'⟩
      · left
        cases d with
        | none => exact h
        | some d => cases v with
          | none => exact h
          | some v => exact (upd_other _ _ _ _ (fun e => hd (by rw [e]))).trans h
      · rcases List.mem_cons.1 he' with rfl | he'
        · exact absurd hd' hd
        · exact .inr ⟨e', he', hd'⟩

/-- A region's shape: no operation looks at a slot that another one fills which need not have come up; no two fill the same. -/
def shapeD (n : Nat) (ops : Array Oper) : Bool :=
  Region.noSelect ops && (List.range ops.size).all fun j =>
    match ops[j]? with
    | none => true
    | some o => (preds o).all (fun k => decide (k < j)) && (match o.dst with | some d => decide (d < n) | none => true) && (List.range ops.size).all fun k =>
      match ops[k]? with
      | none => true
      | some ok => match ok.dst with
        | none => true
        | some t => (!(o.looksAt ops).contains t || (preds o).contains k) && (k == j || o.dst != some t)
structure ShapeP (n : Nat) (ops : Array Oper) : Prop where
  sel : Region.noSelect ops = true
  lt : ∀ (j : Nat) (o : Oper), ops[j]? = some o → ∀ k ∈ preds o, k < j
  dn : ∀ (j : Nat) (o : Oper), ops[j]? = some o → ∀ d, o.dst = some d → d < n
  look : ∀ (j : Nat) (o : Oper) (k : Nat) (ok : Oper) (t : Nat), ops[j]? = some o → ops[k]? = some ok → ok.dst = some t → t ∈ o.looksAt ops → k ∈ preds o
  uniq : ∀ (j : Nat) (o : Oper) (k : Nat) (ok : Oper) (t : Nat), ops[j]? = some o → ops[k]? = some ok → ok.dst = some t → o.dst = some t → k = j
theorem shapeD_ok {n : Nat} {ops : Array Oper} (h : shapeD n ops = true) : ShapeP n ops := by
  simp only [shapeD, Bool.and_eq_true] at h
  obtain ⟨h1, h2⟩ := h
  have key : ∀ (j : Nat) (o : Oper), ops[j]? = some o → ((preds o).all (fun k => decide (k < j)) && (match o.dst with | some d => decide (d < n) | none => true) && (List.range ops.size).all fun k =>
      match ops[k]? with
      | none => true
      | some ok => match ok.dst with
        | none => true
        | some t => (!(o.looksAt ops).contains t || (preds o).contains k) && (k == j || o.dst != some t)) = true := fun j o hj => by
    have := List.all_eq_true.1 h2 j (List.mem_range.2 (Array.getElem?_eq_some_iff.1 hj).1)
    rw [hj] at this
    exact this
  have key2 : ∀ (j : Nat) (o : Oper) (k : Nat) (ok : Oper) (t : Nat), ops[j]? = some o → ops[k]? = some ok → ok.dst = some t → ((!(o.looksAt ops).contains t || (preds o).contains k) && (k == j || o.dst != some t)) = true := fun j o k ok t hj hk ht => by
    have := key j o hj
    simp only [Bool.and_eq_true] at this
    have := List.all_eq_true.1 this.2 k (List.mem_range.2 (Array.getElem?_eq_some_iff.1 hk).1)
    rw [hk] at this
    simp only [ht] at this
    simpa using this
  refine ⟨h1, fun j o hj k hk => ?_, fun j o hj d hd => ?_, fun j o k ok t hj hk ht hl => ?_, fun j o k ok t hj hk ht ho => ?_⟩
  · have := key j o hj
    simp only [Bool.and_eq_true] at this
    simpa using List.all_eq_true.1 this.1.1 k hk
  · have := key j o hj
    simp only [Bool.and_eq_true] at this
    have := this.1.2
    rw [hd] at this
    simpa using this
  · have := key2 j o k ok t hj hk ht
    simp only [Bool.and_eq_true, Bool.or_eq_true, Bool.not_eq_true'] at this
    rcases this.1 with h | h
    · rw [List.contains_eq_mem, decide_eq_false_iff_not] at h
      exact absurd hl h
    · simpa using h
  · have := key2 j o k ok t hj hk ht
    simp only [Bool.and_eq_true, Bool.or_eq_true, beq_iff_eq] at this
    rcases this.2 with h | h
    · exact h
    · rw [ho] at h; simp at h

structure InvD (n : Nat) (E : List Ent) (w0 : World) (ρ : Nat → Value) (listed : Array Bool) (vals : Nat → Value) (ρa : Nat → Value) (a : Act) (w : World) : Prop where
  ext : Ext w0 w
  st : St n ρa a
  φ : ∀ k, listed.getD k false = true → ∀ e, E[k]? = some e → e.φ (vals k) w
  at_ : ∀ k, listed.getD k false = true → ∀ e d, E[k]? = some e → e.d = some d → ρa d = vals k
  miss : ∀ t, (∀ k, listed.getD k false = true → ∀ e, E[k]? = some e → e.d ≠ some t) → ρa t = ρ t
section
variable {P : Program} {n : Nat} {ops : Array Oper} {w0 : World} {E : List Ent} {ρ : Nat → Value}
theorem frame_at (hd : ∀ (i : Nat) (o : Oper) (e : Ent), ops[i]? = some o → E[i]? = some e → EntOk e o) (hl : E.length = ops.size) (hS : ShapeP n ops) {listed : Array Bool} {vals ρa : Nat → Value} {a : Act} {w : World} (I : InvD n E w0 ρ listed vals ρa a w)
    (i : Nat) (ks : List Nat) (t : Nat) (h1 : ∀ (k : Nat) (e : Ent), E[k]? = some e → e.d = some t → k < i → listed.getD k false = true ∧ (e.v = none → k ∈ ks)) (h2 : ∀ (k : Nat) (e : Ent), E[k]? = some e → e.d = some t → listed.getD k false = true → k < i) :
    fr (E.take i) vals ks (sfr (E.take i) ρ) t = ρa t := by
  have op_of : ∀ (k : Nat) (e : Ent), E[k]? = some e → ∃ o, ops[k]? = some o ∧ EntOk e o := fun k e hk => by
    have hlt : k < ops.size := by
      rw [← hl]
      rcases Nat.lt_or_ge k E.length with h | h
      · exact h
      · rw [List.getElem?_eq_none h] at hk; cases hk
    exact ⟨ops[k], Array.getElem?_eq_getElem hlt, hd k _ e (Array.getElem?_eq_getElem hlt) hk⟩
  have uniq : ∀ (k k' : Nat) (e e' : Ent), E[k]? = some e → E[k']? = some e' → e.d = some t → e'.d = some t → k' = k := fun k k' e e' hk hk' hd1 hd2 => by
    obtain ⟨o, ho, hok⟩ := op_of k e hk
    obtain ⟨o', ho', hok'⟩ := op_of k' e' hk'
    exact hS.uniq k o k' o' t ho ho' (hok'.d ▸ hd2) (hok.d ▸ hd1)
  have inE : ∀ (k : Nat) (e : Ent), getL (E.take i) k = some e → E[k]? = some e ∧ k < i := fun k e hk => by
    rw [getL_eq, List.getElem?_take] at hk
    split at hk
    · exact ⟨hk, by assumption⟩
    · cases hk
  by_cases hex : ∃ (k : Nat) (e : Ent), E[k]? = some e ∧ e.d = some t ∧ k < i
  · obtain ⟨k, e, hk, hdt, hki⟩ := hex
    obtain ⟨hlis, hks⟩ := h1 k e hk hdt hki
    obtain ⟨o, ho, hok⟩ := op_of k e hk
    have hra := I.at_ k hlis e t hk hdt
    have hmem : e ∈ E.take i := List.mem_of_getElem? (i := k) (by rw [List.getElem?_take, if_pos hki]; exact hk)
    have huE : ∀ e' ∈ E.take i, e'.d = some t → e' = e := fun e' he' hd' => by
      obtain ⟨k', hk'⟩ := List.mem_iff_getElem?.1 he'
      have hk'' := (inE k' e' (by rw [getL_eq]; exact hk')).1
      have := uniq k k' e e' hk hk'' hdt hd'
      subst this
      rw [hk] at hk''
      exact (Option.some.inj hk'').symm
    cases hv : e.v with
    | some x =>
      have hx : vals k = x := hok.v x hv _ _ (I.φ k hlis e hk)
      rw [fr_miss, sfr_hit _ _ (fun e' he' hd' => by rw [huE e' he' hd']; exact hv) (.inr ⟨e, hmem, hdt⟩), hra, hx]
      intro k' _ φ hk'
      have := huE _ (List.mem_of_getElem? (i := k') (by rw [getL_eq] at hk'; exact hk')) rfl
      rw [← this] at hv
      cases hv
    | none =>
      obtain ⟨ed, ev, eφ⟩ := e
      simp only at hdt hv
      subst hdt hv
      rw [fr_hit (k0 := k) rfl (fun k' φ hk' => ?_) _ _ (.inr ⟨hks rfl, eφ, by rw [getL_eq, List.getElem?_take, if_pos hki]; exact hk⟩), hra]
      exact uniq k k' _ _ hk (inE k' _ hk').1 rfl rfl
  · have hno : ∀ k e, E[k]? = some e → k < i → e.d ≠ some t := fun k e hk hki hd => hex ⟨k, e, hk, hd, hki⟩
    rw [fr_miss, sfr_miss]
    · refine (I.miss t fun k hk e he hd => ?_).symm
      exact hno k e he (h2 k e he hd hk) hd
    · intro e he hd
      obtain ⟨k', hk'⟩ := List.mem_iff_getElem?.1 he
      obtain ⟨h3, h4⟩ := inE k' e (by rw [getL_eq]; exact hk')
      exact absurd hd (hno k' e h3 h4)
    · intro k' _ φ hk'
      obtain ⟨h3, h4⟩ := inE k' _ hk'
      exact hno k' _ h3 h4 rfl

theorem ops_ext {o : Oper} {ρ1 ρ2 : Nat → Value} (hsel : ∀ cs b, o.op ≠ .select cs b) (h : ∀ t ∈ o.looksAt ops, ρ1 t = ρ2 t) : execOp (ev ρ1) o = execOp (ev ρ2) o := by
  refine execOp_congr o hsel fun x hx => ?_
  cases x with
  | tmp t => exact h t (List.mem_append_left _ (List.mem_filterMap.2 ⟨.tmp t, by simpa using hx, rfl⟩))
  | const v => rfl
  | global g => rfl
  | func f => rfl
theorem looksAt_guard {o oj : Oper} {j d : Nat} {want : Bool} (hg : o.guard = some (j, want)) (hj : ops[j]? = some oj) (hd : oj.dst = some d) : d ∈ o.looksAt ops := by
  refine List.mem_append_right _ ?_
  simp [hg, hj, hd]

theorem guardO_ok {o : Oper} {ρ' ρa : Nat → Value} {a : Act} {w : World} {K : Value → World → Prop} {K2 : Act → World → Prop} {Q' : Exit → Act → World → Prop} {i : Nat} (hi : ops[i]? = some o) (hS : ShapeP n ops)
    (ha : St n ρa a) (hag : ∀ t ∈ o.looksAt ops, ρ' t = ρa t) (h : guardO P ops.toList o ρ' w K) (hk : ∀ v w', K v w' → K2 (a.put o.dst v) w') : wpOp P ops Q' i K2 a w := by
  have hsel := Region.noSelect_spec hS.sel i o
  have run : opV P o ρ' w K → Region.wanted o (yielded ops a.tmps) = true → wpOp P ops Q' i K2 a w := fun h hw => by
    unfold wpOp
    rw [hi]
    simp only [hw, if_true]
    have hok := opV_ok h
    rw [ops_ext (ops := ops) (fun cs b => hsel cs b hi) hag] at hok
    exact .inl (OpOk.wp ha.eval hok hk)
  have skip : K undef w → Region.wanted o (yielded ops a.tmps) = false → wpOp P ops Q' i K2 a w := fun h hw => by
    unfold wpOp
    rw [hi]
    simp only [hw, Bool.false_eq_true, if_false]
    exact hk _ _ h
  unfold guardO at h
  split at h
  · rename_i hg
    exact run h (by simp [Region.wanted, hg])
  · rename_i j want hg
    split at h
    · rename_i hj
      rw [getL_eq] at hj
      have : ops[j]? = none := by simpa using hj
      exact skip h (by simp [Region.wanted, hg, yielded, this])
    · rename_i oj hj
      have hj' := hj
      rw [getL_eq] at hj'
      have hoj : ops[j]? = some oj := by simpa using hj'
      split at h
      · rename_i hd
        exact skip h (by simp [Region.wanted, hg, yielded, hoj, hd])
      · rename_i d hd
        have hy := ha.yield hj hd (hS.dn j oj hoj d hd)
        rw [Array.toArray_toList] at hy
        rw [hag d (looksAt_guard hg hoj hd)] at h
        split at h
        · rename_i b hb
          rw [hb] at hy
          cases b
          · have h := h.f rfl
            cases want
            · exact run h (by simp [Region.wanted, hg, hy])
            · exact skip h (by simp [Region.wanted, hg, hy])
          · have h := h.t rfl
            cases want
            · exact skip h (by simp [Region.wanted, hg, hy])
            · exact run h (by simp [Region.wanted, hg, hy])
        · rename_i hb
          refine skip h ?_
          have : yielded ops a.tmps j = none := by
            rw [hy]
            split
            · rename_i b hb'; exact absurd hb' (hb b)
            · rfl
          simp [Region.wanted, hg, this]

theorem getD_replicate_false' (m j : Nat) : (Array.replicate m false).getD j false = false := by
  rcases Nat.lt_or_ge j m with h | h
  · simp [h]
  · simp [h]
theorem countP_set (listed : Array Bool) (i : Nat) (hi : listed.getD i true = false) : (listed.setIfInBounds i true).toList.count false + 1 = listed.toList.count false := by
  have hlt : i < listed.toList.length := by
    rcases Nat.lt_or_ge i listed.size with h | h
    · simpa using h
    · simp [Array.getElem?_eq_none h] at hi
  have hv : listed.toList[i] = false := by
    have h' : i < listed.size := by simpa using hlt
    simpa [h'] using hi
  rw [Array.toList_setIfInBounds]
  have : ∀ (l : List Bool) (i : Nat) (h : i < l.length), l[i] = false → (l.set i true).count false + 1 = l.count false := by
    intro l
    induction l with
    | nil => intro i h; simp at h
    | cons b l ih =>
      intro i h hb
      cases i with
      | zero => simp at hb; subst hb; simp
      | succ i =>
        have := ih i (by simpa using h) (by simpa using hb)
        cases b <;> simp <;> omega
  exact this _ _ hlt hv

theorem wpAny_free {Q : (Nat → Value) → World → Prop} {Q' : Exit → Act → World → Prop} (hQ : ∀ ρ a w, St n ρ a → Q ρ w → Q' .normal a w) (hS : ShapeP n ops) (hl : E.length = ops.size)
    (hE : ∀ (i : Nat) (o : Oper) (e : Ent), ops[i]? = some o → E[i]? = some e → EntOk e o ∧
      ∀ w, Ext w0 w → allv (E.take i) (preds o) (sfr (E.take i) ρ) w fun ρ' => guardO P ops.toList o ρ' w fun v w' => Ext w w' ∧ e.φ v w')
    (hF : ∃ ks : List Nat, (∀ k d φ, getL E k = some ⟨some d, none, φ⟩ → k ∈ ks) ∧ ∀ w, Ext w0 w → allv E ks (sfr E ρ) w fun ρ' => Q ρ' w) :
    ∀ (fuel : Nat) (listed : Array Bool) (vals ρa : Nat → Value) (a : Act) (w : World), listed.size = ops.size → listed.toList.count false ≤ fuel → InvD n E w0 ρ listed vals ρa a w → wpAny P .any ops Q' fuel listed a w := by
  obtain ⟨ks, hks, hF⟩ := hF
  have hd : ∀ (i : Nat) (o : Oper) (e : Ent), ops[i]? = some o → E[i]? = some e → EntOk e o := fun i o e h1 h2 => (hE i o e h1 h2).1
  have hlt : ∀ (k : Nat) (e : Ent), E[k]? = some e → k < ops.size := fun k e hk => by
    rw [← hl]
    rcases Nat.lt_or_ge k E.length with h | h
    · exact h
    · rw [List.getElem?_eq_none h] at hk; cases hk
  have final : ∀ (listed : Array Bool) (vals ρa : Nat → Value) (a : Act) (w : World), (∀ k, k < ops.size → listed.getD k false = true) → InvD n E w0 ρ listed vals ρa a w → Q' .normal a w := fun listed vals ρa a w hall I => by
    have h := allv_fr (vals := vals) _ _ (fun k _ e hk => by
      rw [getL_eq] at hk
      exact I.φ k (hall k (hlt k e hk)) e hk) (hF w I.ext)
    have he : fr E vals ks (sfr E ρ) = ρa := by
      funext t
      have := frame_at hd hl hS I E.length ks t (fun k e hk hdt hki => ⟨hall k (hlt k e hk), fun hv => hks k t e.φ (by
        obtain ⟨ed, ev, eφ⟩ := e
        simp only at hdt hv
        subst hdt hv
        rw [getL_eq]; exact hk)⟩) (fun k e hk _ _ => by rw [hl]; exact hlt k e hk)
      rwa [List.take_length] at this
    rw [he] at h
    exact hQ _ _ _ I.st h
  have nodone : ∀ (listed : Array Bool), listed.size = ops.size → Region.ready .any ops listed = [] → ∀ k, k < ops.size → listed.getD k false = true := fun listed hsz hr k hk => by
    induction k using Nat.strongRecOn with
    | _ k ih =>
      cases hv : listed.getD k false with
      | true => rfl
      | false =>
        exfalso
        have hmem : k ∈ Region.ready .any ops listed := by
          refine mem_ready.2 ⟨?_, ops[k], Array.getElem?_eq_getElem hk, fun e he hb => ?_⟩
          · have : k < listed.size := by omega
            simp [this] at hv ⊢; exact hv
          · rw [bindB_eq] at hb
            have hp : e.on ∈ preds ops[k] := mem_predsL.2 ⟨e, by simpa using he, hb, rfl⟩
            have h1 := hS.lt k _ (Array.getElem?_eq_getElem hk) _ hp
            exact ih _ h1 (by omega)
        rw [hr] at hmem
        cases hmem
  intro fuel
  induction fuel with
  | zero =>
    intro listed vals ρa a w hsz hc I
    have hall : ∀ k, k < ops.size → listed.getD k false = true := fun k hk => by
      have h0 : listed.toList.count false = 0 := by omega
      have h1 := List.count_eq_zero.1 h0
      have hk' : k < listed.size := by omega
      cases hv : listed[k] with
      | true => simp [hk', hv]
      | false => exact absurd (by rw [← hv]; exact Array.mem_toList_iff.2 (Array.getElem_mem hk')) h1
    refine ⟨?_, final listed vals ρa a w hall I⟩
    rw [List.eq_nil_iff_forall_not_mem]
    intro j hj
    obtain ⟨h1, o, ho, _⟩ := mem_ready.1 hj
    have h2 := hall j (Array.getElem?_eq_some_iff.1 ho).1
    have hk' : j < listed.size := by have := (Array.getElem?_eq_some_iff.1 ho).1; omega
    simp [hk'] at h1 h2
    rw [h1] at h2; cases h2
  | succ fuel ih =>
    intro listed vals ρa a w hsz hc I
    refine ⟨fun hr => final listed vals ρa a w (nodone listed hsz hr) I, fun i hi => ?_⟩
    obtain ⟨hun, o, ho, hall⟩ := mem_ready.1 hi
    have hio : i < ops.size := (Array.getElem?_eq_some_iff.1 ho).1
    have hiE : i < E.length := by omega
    obtain ⟨hok, hspec⟩ := hE i o E[i] ho (List.getElem?_eq_getElem hiE)
    have hpl : ∀ k ∈ preds o, listed.getD k false = true := fun k hk => by
      obtain ⟨e, he, hb, hon⟩ := mem_predsL.1 hk
      rw [← hon]
      exact hall e (by simpa using he) (by rw [bindB_eq]; exact hb)
    have h := allv_fr (vals := vals) _ _ (fun k hk e he => by
      rw [getL_eq, List.getElem?_take, if_pos (hS.lt i o ho k hk)] at he
      exact I.φ k (hpl k hk) e he) (hspec w I.ext)
    have hag : ∀ t ∈ o.looksAt ops, fr (E.take i) vals (preds o) (sfr (E.take i) ρ) t = ρa t := fun t ht => by
      have hp : ∀ (k : Nat) (e : Ent), E[k]? = some e → e.d = some t → k ∈ preds o := fun k e hk hdt => by
        have hk' := hlt k e hk
        exact hS.look i o k ops[k] t ho (Array.getElem?_eq_getElem hk') ((hd k _ e (Array.getElem?_eq_getElem hk') hk).d ▸ hdt) ht
      exact frame_at hd hl hS I i (preds o) t (fun k e hk hdt _ => ⟨hpl k (hp k e hk hdt), fun _ => hp k e hk hdt⟩) (fun k e hk hdt _ => hS.lt i o ho k (hp k e hk hdt))
    refine guardO_ok ho hS I.st hag h fun v w' ⟨hx, hφ⟩ => ?_
    have hgd : ∀ k, (listed.setIfInBounds i true).getD k false = true → k = i ∨ (k ≠ i ∧ listed.getD k false = true) := fun k hk => by
      by_cases hki : k = i
      · exact .inl hki
      · rw [getD_set_ne false (fun e => hki e.symm)] at hk
        exact .inr ⟨hki, hk⟩
    have hnl : listed.getD i false = false := by
      have : i < listed.size := by omega
      simp [this] at hun ⊢; exact hun
    refine ih _ (fun k => if k = i then v else vals k) (match o.dst with | some d => upd ρa d v | none => ρa) _ _ (by simp [hsz]) (by have := countP_set listed i hun; omega) ⟨I.ext.trans hx, ?_, ?_, ?_, ?_⟩
    · cases hdd : o.dst with
      | none => exact I.st
      | some d => exact I.st.put (hS.dn i o ho d hdd) v
    · intro k hk e he
      rcases hgd k hk with rfl | ⟨hki, hk⟩
      · rw [List.getElem?_eq_getElem hiE] at he
        cases he
        simpa using hφ
      · simp only [if_neg hki]
        have hk' := hlt k e he
        exact (hd k _ e (Array.getElem?_eq_getElem hk') he).st _ _ _ (I.φ k hk e he) hx
    · intro k hk e d he hdd
      rcases hgd k hk with rfl | ⟨hki, hk⟩
      · rw [List.getElem?_eq_getElem hiE] at he
        cases he
        rw [hok.d] at hdd
        simp [hdd, upd_same]
      · simp only [if_neg hki]
        have hk' := hlt k e he
        have hd2 := (hd k _ e (Array.getElem?_eq_getElem hk') he).d
        cases ho2 : o.dst with
        | none => exact I.at_ k hk e d he hdd
        | some d2 =>
          have hne : d ≠ d2 := by
            rintro rfl
            exact hki (hS.uniq i o k _ d ho (Array.getElem?_eq_getElem hk') (hd2 ▸ hdd) ho2)
          simp only
          rw [upd_other _ _ _ _ hne]
          exact I.at_ k hk e d he hdd
    · intro t ht
      have h1 : ρa t = ρ t := I.miss t fun k hk e he => ht k (by
        by_cases hki : k = i
        · subst hki; rw [hnl] at hk; cases hk
        · rw [getD_set_ne false (fun e => hki e.symm)]; exact hk) e he
      cases ho2 : o.dst with
      | none => exact h1
      | some d2 =>
        have hne : t ≠ d2 := by
          rintro rfl
          refine ht i ?_ E[i] (List.getElem?_eq_getElem hiE) (by rw [hok.d, ho2])
          have : i < listed.size := by omega
          simp [this]
        simp only
        rw [upd_other _ _ _ _ hne]
        exact h1
end
/-- What is asked at a region that draws its order: each operation by itself. -/
theorem DrawV.free {P : Program} {n id : Nat} {ops : Array Oper} {Q : Exit → (Nat → Value) → World → Prop} {ρ : Nat → Value} {w : World} (hm : P.follows .mixedOrders = true) (hB : shapeD n ops = true)
    (h : regD P ops.toList w.drew (fun ρ' w' => Q .normal ρ' w') ops.toList 0 [] ρ) : DrawV P n id ops Q ρ w := by
  refine ⟨fun a ha => wp_region_any hm ?_⟩
  obtain ⟨E, h1, h2, h3⟩ := regD_all ops.toList [] [] ρ (fun k => rfl) h
  refine wpAny_free (Q := fun ρ' w' => Q .normal ρ' w') (E := E) (w0 := w.drew) (ρ := ρ) (fun ρ a w h1 h2 => ⟨ρ, h1, h2⟩) (shapeD_ok hB) (by simpa using h1) (fun i o e ho he => ?_) (by simpa using h3) _ _ (fun _ => undef) ρ a _ (by simp) (by simp) ⟨Ext.refl _, ha, ?_, ?_, fun t _ => rfl⟩
  · have := h2 i o e (by simpa using ho) he
    simpa using this
  · intro k hk; rw [getD_replicate_false'] at hk; cases hk
  · intro k hk; rw [getD_replicate_false'] at hk; cases hk
end V
end Go.Proofs.YtajgbepghniciaaGreatDoor
namespace Go.Proofs.YtajgbepghniciaaGreatDoor
open Go.RowKit V
set_option maxRecDepth 100000

namespace V
theorem Rw.tail {w0 w : World} {v : Value} {e : TypeId} {size n : Nat} {xs : List Value} {x : Nat × Obj} {L : List (Nat × Obj)} (h : Rw w0 w v e size n xs (x :: L)) : Rw w0 w v e size n xs L :=
  ⟨h.mem.sub (List.sublist_cons_self ..), h.own, fun y hy => h.apart y (List.mem_cons_of_mem _ hy)⟩
end V

theorem V.Rw.cells {w0 w : World} {A : Option Addr} {c n : Nat} {e : TypeId} {xs : List Value} {L : List (Nat × Obj)} (h : Rw w0 w (.slice A n c) e 1 n xs L) (hn : 0 < n) :
    ∃ g, A = some ⟨g, 0, none⟩ ∧ w0.heap.size ≤ g ∧ g < w.heap.size ∧ n ≤ c ∧ CellsAt w g 0 xs := by
  rcases h.own.2 with ⟨e1, e2⟩ | ⟨g, cap, cur, e1, hg0, hg, hnc, _, hcs, htk⟩
  · omega
  · cases e1
    refine ⟨g, rfl, hg0, ?_, hnc, fun k v hv => ?_⟩
    · rcases Nat.lt_or_ge g w.heap.size with h' | h'
      · exact h'
      · rw [Array.getElem?_eq_none h'] at hg; cases hg
    · rw [cell_heap hg, Nat.zero_add]
      rw [← htk, List.getElem?_take] at hv
      split at hv
      · simpa using hv
      · cases hv
end Go.Proofs.YtajgbepghniciaaGreatDoor
namespace Go.Proofs.YtajgbepghniciaaGreatDoor
open Go.RowKit V
set_option maxRecDepth 100000

theorem bsz (a b : ByteArray) : (a ++ b).size = a.size + b.size := ByteArray.size_append
end Go.Proofs.YtajgbepghniciaaGreatDoor
namespace Go.Proofs.YtajgbepghniciaaGreatDoor
open Go.RowKit V
set_option maxRecDepth 100000

theorem refScalar_any (r : Int) (w : World) :
    Gv Tryz.prog 300 [.int .i64 r] w fun v w' => v = .bool (scalarB r) ∧ w' = w := by
  refine gv (by kernel_rfl) Tryz.func300 rfl Tryz.ntmps300 rfl ?_; conv => whnf
  (repeat' (first
      | (refine Obl.mk ⟨by omega, by omega⟩ ?_; conv => whnf)
      | (refine Obl.mk ⟨by omega, by omega, ⟨by omega, by omega⟩⟩ ?_; conv => whnf)
      | ((with_reducible refine Tst.tt ?_); conv => whnf)
      | ((with_reducible refine Tst.ff ?_); conv => whnf)
      | ((with_reducible refine Tst.dec (fun _ => ?_) (fun _ => ?_)) <;> first | (exfalso; omega) | (conv => whnf))
      | ((with_reducible refine Tst.not ?_))
      | (refine Wit.conv ⟨by omega, by omega⟩ ?_; conv => whnf)
      | ((with_reducible refine IdxV.nat (by omega) ?_); conv => whnf)
      | ((with_reducible refine SameW.mk rfl ?_); conv => whnf)
      | (refine LoadV.mem (i := 0) (by assumption) rfl rfl ?_; conv => whnf)
      | (refine LoadV.mem (i := 1) (by assumption) rfl rfl ?_; conv => whnf)
      | (refine LoadV.mem (i := 2) (by assumption) rfl rfl ?_; conv => whnf)
      | ((with_reducible refine Tst.beqT ?_))
      | ((with_reducible refine Tst.beqF ?_))
      | (refine Tst.yes rfl ?_; conv => whnf)
      | (refine Tst.no rfl ?_; conv => whnf)))
  all_goals (refine ⟨congrArg Value.bool ((scalarB_iff r _).2 ?_), rfl⟩; simp; try omega)

theorem cons2 {α : Type} {a b : α} {l m : List α} (h : a = b) (k : l = m) : a :: l = b :: m := by subst h k; rfl
theorem refBytes_any (r : Nat) (h : r ≤ 1114111) (w : World) :
    Gv Tryz.prog 299 [.int .i64 r] w fun v w' => ∃ b, v = .slice (some ⟨b, 0, none⟩) (encL r).length (encL r).length ∧ CellsAt w' b 0 (byteCells (encL r)) ∧ Ext w w' := by
  have fin : ∀ (l : List UInt8) (vs : List Value) (n b : Nat) (w1 : World), Mem w w1 [(b, .cells vs.toArray 5 (0, 0))] → encL r = l → vs = byteCells l → n = l.length →
      ∃ b', Value.slice (some ⟨b, 0, none⟩) n n = .slice (some ⟨b', 0, none⟩) (encL r).length (encL r).length ∧ CellsAt w1 b' 0 (byteCells (encL r)) ∧ Ext w w1 := by
    rintro l vs n b w1 hm rfl rfl rfl
    refine ⟨b, rfl, fun k v hv => ?_, hm.ext⟩
    rw [cell_heap (hm.get (List.mem_cons_self ..)), Nat.zero_add]
    simpa using hv
  have cv : ∀ (x : Int) (n : Nat), n < 256 → x = n → Value.int .u8 x = .int .u8 ((UInt8.ofNat n).toNat : Int) := fun x n hn hx => by rw [u8_nat n hn, hx]
  refine gv (by kernel_rfl) Tryz.func299 rfl Tryz.ntmps299 rfl ?_; conv => whnf
  (repeat' (first
      | (refine Obl.mk ⟨by omega, by omega⟩ ?_; conv => whnf)
      | (refine Obl.mk ⟨by omega, by omega, ⟨by omega, by omega⟩⟩ ?_; conv => whnf)
      | ((with_reducible refine Tst.tt ?_); conv => whnf)
      | ((with_reducible refine Tst.ff ?_); conv => whnf)
      | ((with_reducible refine Tst.dec (fun _ => ?_) (fun _ => ?_)) <;> first | (exfalso; omega) | (conv => whnf))
      | ((with_reducible refine Tst.not ?_))
      | (refine Wit.conv ⟨by omega, by omega⟩ ?_; conv => whnf)
      | ((with_reducible refine IdxV.nat (by omega) ?_); conv => whnf)
      | ((with_reducible refine SameW.mk rfl ?_); conv => whnf)
      | (refine LoadV.mem (i := 0) (by assumption) rfl rfl ?_; conv => whnf)
      | (refine LoadV.mem (i := 1) (by assumption) rfl rfl ?_; conv => whnf)
      | (refine LoadV.mem (i := 2) (by assumption) rfl rfl ?_; conv => whnf)
      | ((with_reducible refine Tst.beqT ?_))
      | ((with_reducible refine Tst.beqF ?_))
      | (refine Tst.yes rfl ?_; conv => whnf)
      | (refine Tst.no rfl ?_; conv => whnf)))
  · refine NewV.mem (Mem.nil w) ?_
    intro b w1 hm
    (conv => whnf)
    refine fin [UInt8.ofNat r] _ _ _ _ hm (by unfold encL; rw [if_pos (by omega)]) ?_ rfl
    simp only [byteCells, List.map_cons, List.map_nil, u8_nat r (by omega)]
  · refine NewV.mem (Mem.nil w) ?_
    intro b w1 hm
    (conv => whnf)
    refine fin [UInt8.ofNat (0xC0 + r / 64), UInt8.ofNat (0x80 + r % 64)] _ _ _ _ hm (by unfold encL; rw [if_neg (by omega), if_pos (by omega)]) ?_ rfl
    simp only [byteCells, List.map_cons, List.map_nil]
    exact cons2 (cv _ _ (by omega) (by omega)) (cons2 (cv _ _ (by omega) (by omega)) rfl)
  · refine NewV.mem (Mem.nil w) ?_
    intro b w1 hm
    (conv => whnf)
    refine fin [UInt8.ofNat (0xE0 + r / 4096), UInt8.ofNat (0x80 + r / 64 % 64), UInt8.ofNat (0x80 + r % 64)] _ _ _ _ hm (by unfold encL; rw [if_neg (by omega), if_neg (by omega), if_pos (by omega)]) ?_ rfl
    simp only [byteCells, List.map_cons, List.map_nil]
    exact cons2 (cv _ _ (by omega) (by omega)) (cons2 (cv _ _ (by omega) (by omega)) (cons2 (cv _ _ (by omega) (by omega)) rfl))
  · refine NewV.mem (Mem.nil w) ?_
    intro b w1 hm
    (conv => whnf)
    refine fin [UInt8.ofNat (0xF0 + r / 262144), UInt8.ofNat (0x80 + r / 4096 % 64), UInt8.ofNat (0x80 + r / 64 % 64), UInt8.ofNat (0x80 + r % 64)] _ _ _ _ hm (by unfold encL; rw [if_neg (by omega), if_neg (by omega), if_neg (by omega)]) ?_ rfl
    simp only [byteCells, List.map_cons, List.map_nil]
    exact cons2 (cv _ _ (by omega) (by omega)) (cons2 (cv _ _ (by omega) (by omega)) (cons2 (cv _ _ (by omega) (by omega)) (cons2 (cv _ _ (by omega) (by omega)) rfl)))

def gacc (r : Int) (l : List UInt8) : Int := l.foldl (fun r c => r * 64 + c.toNat - 128) r
def glead (n : Nat) : Int := if n = 2 then 192 else if n = 3 then 224 else if n = 4 then 240 else 0
/-- the scalar that so many bytes would be -/
def guessI (l : List UInt8) : Int := gacc (((l.headD 0).toNat : Int) - glead l.length) l.tail
def guessR (l : List UInt8) : Int := if scalarB (guessI l) = true ∧ encL (guessI l).toNat = l then guessI l else -1
theorem gacc_take (r : Int) (l : List UInt8) (k : Nat) (h : k < l.length) : gacc r (l.take (k + 1)) = gacc r (l.take k) * 64 + l[k].toNat - 128 := by
  rw [List.take_succ_eq_append_getElem h, gacc, List.foldl_append]; rfl

theorem gacc_le (r : Int) (l : List UInt8) (h : -256 ≤ r ∧ r ≤ 256) : -256 * 128 ^ l.length ≤ gacc r l ∧ gacc r l ≤ 256 * 128 ^ l.length := by
  have key : ∀ (l : List UInt8) (r M : Int), 256 ≤ M → -M ≤ r ∧ r ≤ M → -(M * 128 ^ l.length) ≤ gacc r l ∧ gacc r l ≤ M * 128 ^ l.length := by
    intro l
    induction l with
    | nil => intro r M _ h; simpa [gacc] using h
    | cons c l ih =>
      intro r M hM h
      have hc := c.toNat_lt
      have := ih (r * 64 + c.toNat - 128) (M * 128) (by omega) (by omega)
      rw [List.length_cons, Int.pow_succ, Int.mul_comm (128 ^ l.length) 128, ← Int.mul_assoc]
      exact this
  have := key l r 256 (by omega) h
  rw [Int.neg_mul]; exact this

theorem guess_any (l : List UInt8) (b c : Nat) (w : World) (hb : CellsAt w b 0 (byteCells l)) (h1 : 1 ≤ l.length) (h4 : l.length ≤ 4) :
    Gv Tryz.prog 248 [.slice (some ⟨b, 0, none⟩) l.length c] w fun v w' => v = .int .i64 (guessR l) ∧ Ext w w' := by
  have hcell : ∀ k (hk : k < l.length), (byteCells l)[k]? = some (.int .u8 l[k].toNat) := fun k hk => by simp [byteCells, hk]
  have hbyte : ∀ k (hk : k < l.length), l[k].toNat < 256 := fun k hk => l[k].toNat_lt
  refine gv (by kernel_rfl) Tryz.func248 rfl Tryz.ntmps248 rfl ?_; conv => whnf
  refine NewV.mem (Mem.nil w) ?_
  intro tb w1 hm
  (conv => whnf)
  refine StoreA.mem hm (i := 0) rfl (Nat.le_refl 5) (fun v hv => by simp at hv; rcases hv with rfl | rfl | rfl | rfl <;> rfl) ?_
  intro w2 hm
  replace hm : Mem w w2 [(tb, .cells #[.int .i64 0, .int .i64 0, .int .i64 192, .int .i64 224, .int .i64 240] 409 (0, 0))] := hm
  (conv => whnf)
  have hg : (#[Value.int .i64 0, Value.int .i64 0, Value.int .i64 192, Value.int .i64 224, Value.int .i64 240] : Array Value)[0 + l.length * 1]? = some (.int .i64 (glead l.length)) := by
    obtain h | h | h | h : l.length = 1 ∨ l.length = 2 ∨ l.length = 3 ∨ l.length = 4 := by omega
    all_goals (rw [h]; rfl)
  have hgl : 0 ≤ glead l.length ∧ glead l.length ≤ 240 := by unfold glead; (repeat' split) <;> omega
  have hb0 := hbyte 0 (by omega)
  refine DrawV.quiet (by kernel_rfl) (by kernel_rfl) ?_; conv => whnf
  (repeat' (first
      | (refine Obl.mk ⟨by omega, by omega⟩ ?_; conv => whnf)
      | (refine Obl.mk ⟨by omega, by omega, ⟨by omega, by omega⟩⟩ ?_; conv => whnf)
      | ((with_reducible refine Tst.tt ?_); conv => whnf)
      | ((with_reducible refine Tst.ff ?_); conv => whnf)
      | ((with_reducible refine Tst.dec (fun _ => ?_) (fun _ => ?_)) <;> first | (exfalso; omega) | (conv => whnf))
      | ((with_reducible refine Tst.not ?_))
      | (refine Wit.conv ⟨by omega, by omega⟩ ?_; conv => whnf)
      | ((with_reducible refine IdxV.nat (by omega) ?_); conv => whnf)
      | ((with_reducible refine SameW.mk rfl ?_); conv => whnf)
      | (refine LoadV.mem (i := 0) (by assumption) rfl rfl ?_; conv => whnf)
      | (refine LoadV.mem (i := 1) (by assumption) rfl rfl ?_; conv => whnf)
      | (refine LoadV.mem (i := 2) (by assumption) rfl rfl ?_; conv => whnf)
      | ((with_reducible refine Tst.beqT ?_))
      | ((with_reducible refine Tst.beqF ?_))
      | (refine Tst.yes rfl ?_; conv => whnf)
      | (refine Tst.no rfl ?_; conv => whnf)))
  refine ElemV.own1 0 rfl (by omega) ?_
  (conv => whnf)
  (repeat' (first
      | (refine Obl.mk ⟨by omega, by omega⟩ ?_; conv => whnf)
      | (refine Obl.mk ⟨by omega, by omega, ⟨by omega, by omega⟩⟩ ?_; conv => whnf)
      | ((with_reducible refine Tst.tt ?_); conv => whnf)
      | ((with_reducible refine Tst.ff ?_); conv => whnf)
      | ((with_reducible refine Tst.dec (fun _ => ?_) (fun _ => ?_)) <;> first | (exfalso; omega) | (conv => whnf))
      | ((with_reducible refine Tst.not ?_))
      | (refine Wit.conv ⟨by omega, by omega⟩ ?_; conv => whnf)
      | ((with_reducible refine IdxV.nat (by omega) ?_); conv => whnf)
      | ((with_reducible refine SameW.mk rfl ?_); conv => whnf)
      | (refine LoadV.mem (i := 0) (by assumption) rfl rfl ?_; conv => whnf)
      | (refine LoadV.mem (i := 1) (by assumption) rfl rfl ?_; conv => whnf)
      | (refine LoadV.mem (i := 2) (by assumption) rfl rfl ?_; conv => whnf)
      | ((with_reducible refine Tst.beqT ?_))
      | ((with_reducible refine Tst.beqF ?_))
      | (refine Tst.yes rfl ?_; conv => whnf)
      | (refine Tst.no rfl ?_; conv => whnf)))
  refine LoadV.cells (hb.ext hm.drew.ext) 0 (hcell 0 (by omega)) ?_
  (conv => whnf)
  (repeat' (first
      | (refine Obl.mk ⟨by omega, by omega⟩ ?_; conv => whnf)
      | (refine Obl.mk ⟨by omega, by omega, ⟨by omega, by omega⟩⟩ ?_; conv => whnf)
      | ((with_reducible refine Tst.tt ?_); conv => whnf)
      | ((with_reducible refine Tst.ff ?_); conv => whnf)
      | ((with_reducible refine Tst.dec (fun _ => ?_) (fun _ => ?_)) <;> first | (exfalso; omega) | (conv => whnf))
      | ((with_reducible refine Tst.not ?_))
      | (refine Wit.conv ⟨by omega, by omega⟩ ?_; conv => whnf)
      | ((with_reducible refine IdxV.nat (by omega) ?_); conv => whnf)
      | ((with_reducible refine SameW.mk rfl ?_); conv => whnf)
      | (refine LoadV.mem (i := 0) (by assumption) rfl rfl ?_; conv => whnf)
      | (refine LoadV.mem (i := 1) (by assumption) rfl rfl ?_; conv => whnf)
      | (refine LoadV.mem (i := 2) (by assumption) rfl rfl ?_; conv => whnf)
      | ((with_reducible refine Tst.beqT ?_))
      | ((with_reducible refine Tst.beqF ?_))
      | (refine Tst.yes rfl ?_; conv => whnf)
      | (refine Tst.no rfl ?_; conv => whnf)))
  refine LoadV.mem hm.drew (i := 0) rfl hg ?_
  (conv => whnf)
  (repeat' (first
      | (refine Obl.mk ⟨by omega, by omega⟩ ?_; conv => whnf)
      | (refine Obl.mk ⟨by omega, by omega, ⟨by omega, by omega⟩⟩ ?_; conv => whnf)
      | ((with_reducible refine Tst.tt ?_); conv => whnf)
      | ((with_reducible refine Tst.ff ?_); conv => whnf)
      | ((with_reducible refine Tst.dec (fun _ => ?_) (fun _ => ?_)) <;> first | (exfalso; omega) | (conv => whnf))
      | ((with_reducible refine Tst.not ?_))
      | (refine Wit.conv ⟨by omega, by omega⟩ ?_; conv => whnf)
      | ((with_reducible refine IdxV.nat (by omega) ?_); conv => whnf)
      | ((with_reducible refine SameW.mk rfl ?_); conv => whnf)
      | (refine LoadV.mem (i := 0) (by assumption) rfl rfl ?_; conv => whnf)
      | (refine LoadV.mem (i := 1) (by assumption) rfl rfl ?_; conv => whnf)
      | (refine LoadV.mem (i := 2) (by assumption) rfl rfl ?_; conv => whnf)
      | ((with_reducible refine Tst.beqT ?_))
      | ((with_reducible refine Tst.beqF ?_))
      | (refine Tst.yes rfl ?_; conv => whnf)
      | (refine Tst.no rfl ?_; conv => whnf)))
  have htl : l.tail.length = l.length - 1 := by simp
  have hhd : l.headD 0 = l[0] := by cases l with | nil => simp at h1 | cons a t => rfl
  refine loopV (fun k : Nat => [(0, .slice (some ⟨b, 0, none⟩) l.length c), (4, .int .i64 (gacc ((l[0].toNat : Int) - glead l.length) (l.tail.take (k - 1)))), (5, .int .i64 k)])
    (fun k w3 => 1 ≤ k ∧ k ≤ l.length ∧ w3 = w2.drew) (fun k => l.length - k) 1 ⟨rfl, rfl, rfl, trivial⟩ ⟨by omega, by omega, rfl⟩ ?_
  rintro k w3 ρ' ⟨hk1, hk2, rfl⟩
  have hgb := gacc_le ((l[0].toNat : Int) - glead l.length) (l.tail.take (k - 1)) (by omega)
  have hpow : (128 : Int) ^ (l.tail.take (k - 1)).length ≤ 2097152 := by
    have : (l.tail.take (k - 1)).length ≤ 3 := by rw [List.length_take]; omega
    obtain h | h | h | h : (l.tail.take (k - 1)).length = 0 ∨ (l.tail.take (k - 1)).length = 1 ∨ (l.tail.take (k - 1)).length = 2 ∨ (l.tail.take (k - 1)).length = 3 := by omega
    all_goals (rw [h]; decide)
  (conv => whnf)
  (repeat' (first
      | (refine Obl.mk ⟨by omega, by omega⟩ ?_; conv => whnf)
      | (refine Obl.mk ⟨by omega, by omega, ⟨by omega, by omega⟩⟩ ?_; conv => whnf)
      | ((with_reducible refine Tst.tt ?_); conv => whnf)
      | ((with_reducible refine Tst.ff ?_); conv => whnf)
      | ((with_reducible refine Tst.dec (fun _ => ?_) (fun _ => ?_)) <;> first | (exfalso; omega) | (conv => whnf))
      | ((with_reducible refine Tst.not ?_))
      | (refine Wit.conv ⟨by omega, by omega⟩ ?_; conv => whnf)
      | ((with_reducible refine IdxV.nat (by omega) ?_); conv => whnf)
      | ((with_reducible refine SameW.mk rfl ?_); conv => whnf)
      | (refine LoadV.mem (i := 0) (by assumption) rfl rfl ?_; conv => whnf)
      | (refine LoadV.mem (i := 1) (by assumption) rfl rfl ?_; conv => whnf)
      | (refine LoadV.mem (i := 2) (by assumption) rfl rfl ?_; conv => whnf)
      | ((with_reducible refine Tst.beqT ?_))
      | ((with_reducible refine Tst.beqF ?_))
      | (refine Tst.yes rfl ?_; conv => whnf)
      | (refine Tst.no rfl ?_; conv => whnf)))
  · have hlt : k < l.length := by omega
    have hbk := hbyte k hlt
    refine ElemV.own1 k rfl (by omega) ?_
    (conv => whnf)
    refine LoadV.of (by have := hb.ext hm.drew.ext k _ (hcell k hlt); rwa [Nat.zero_add] at this) ?_
    (conv => whnf)
    (repeat' (first
      | (refine Obl.mk ⟨by omega, by omega⟩ ?_; conv => whnf)
      | (refine Obl.mk ⟨by omega, by omega, ⟨by omega, by omega⟩⟩ ?_; conv => whnf)
      | ((with_reducible refine Tst.tt ?_); conv => whnf)
      | ((with_reducible refine Tst.ff ?_); conv => whnf)
      | ((with_reducible refine Tst.dec (fun _ => ?_) (fun _ => ?_)) <;> first | (exfalso; omega) | (conv => whnf))
      | ((with_reducible refine Tst.not ?_))
      | (refine Wit.conv ⟨by omega, by omega⟩ ?_; conv => whnf)
      | ((with_reducible refine IdxV.nat (by omega) ?_); conv => whnf)
      | ((with_reducible refine SameW.mk rfl ?_); conv => whnf)
      | (refine LoadV.mem (i := 0) (by assumption) rfl rfl ?_; conv => whnf)
      | (refine LoadV.mem (i := 1) (by assumption) rfl rfl ?_; conv => whnf)
      | (refine LoadV.mem (i := 2) (by assumption) rfl rfl ?_; conv => whnf)
      | ((with_reducible refine Tst.beqT ?_))
      | ((with_reducible refine Tst.beqF ?_))
      | (refine Tst.yes rfl ?_; conv => whnf)
      | (refine Tst.no rfl ?_; conv => whnf)))
    have hkt : k - 1 < l.tail.length := by omega
    have hstep : gacc ((l[0].toNat : Int) - glead l.length) (l.tail.take k) = gacc ((l[0].toNat : Int) - glead l.length) (l.tail.take (k - 1)) * 64 + l[k].toNat - 128 := by
      have := gacc_take ((l[0].toNat : Int) - glead l.length) l.tail (k - 1) hkt
      have e : l.tail[k - 1] = l[k] := by simp; congr 1; omega
      rw [e, show k - 1 + 1 = k by omega] at this
      exact this
    refine ⟨k + 1, ⟨rfl, ?_, rfl, trivial⟩, ⟨by omega, by omega, rfl⟩, by omega⟩
    rw [show k + 1 - 1 = k by omega, hstep]; rfl
  · obtain rfl : k = l.length := by omega
    have hG : gacc ((l[0].toNat : Int) - glead l.length) (l.tail.take (l.length - 1)) = guessI l := by
      rw [List.take_of_length_le (by omega), guessI, hhd]
    rw [hG]
    refine CallV.of (refScalar_any (guessI l) _) ?_
    rintro v w4 ⟨rfl, rfl⟩
    (conv => whnf)
    have hbs : CellsAt w2.drew.drew b 0 (byteCells l) := hb.ext hm.drew.drew.ext
    have hE0 : Ext w w2.drew.drew := hm.drew.drew.ext
    cases hsc : scalarB (guessI l)
    · refine DrawV.free rfl (by kernel_rfl) ?_
      (conv => whnf)
      (apply StepD.still; (· intro wd hd; (conv => whnf); (repeat (intro _ _; (conv => whnf))); (first | exact ⟨Ext.refl _, rfl⟩ | ((repeat' (first | (refine Obl.mk ⟨by omega, by omega⟩ ?_; conv => whnf) | (refine Obl.mk ⟨by omega, by omega, ⟨by omega, by omega⟩⟩ ?_; conv => whnf) | ((with_reducible refine Tst.tt ?_); conv => whnf) | ((with_reducible refine Tst.ff ?_); conv => whnf) | ((with_reducible refine Tst.dec (fun _ => ?_) (fun _ => ?_)) <;> first | (exfalso; omega) | (conv => whnf)) | ((with_reducible refine Tst.not ?_)) | (refine Wit.conv ⟨by omega, by omega⟩ ?_; conv => whnf) | ((with_reducible refine IdxV.nat (by omega) ?_); conv => whnf) | ((with_reducible refine SameW.mk rfl ?_); conv => whnf) | ((with_reducible refine Tst.beqT ?_)) | ((with_reducible refine Tst.beqF ?_)) | (refine Tst.yes rfl ?_; conv => whnf) | (refine Tst.no rfl ?_; conv => whnf))); exact ⟨Ext.refl _, rfl⟩))); (conv => whnf))
      (apply StepD.still; (· intro wd hd; (conv => whnf); (repeat (intro _ _; (conv => whnf))); (first | exact ⟨Ext.refl _, rfl⟩ | ((repeat' (first | (refine Obl.mk ⟨by omega, by omega⟩ ?_; conv => whnf) | (refine Obl.mk ⟨by omega, by omega, ⟨by omega, by omega⟩⟩ ?_; conv => whnf) | ((with_reducible refine Tst.tt ?_); conv => whnf) | ((with_reducible refine Tst.ff ?_); conv => whnf) | ((with_reducible refine Tst.dec (fun _ => ?_) (fun _ => ?_)) <;> first | (exfalso; omega) | (conv => whnf)) | ((with_reducible refine Tst.not ?_)) | (refine Wit.conv ⟨by omega, by omega⟩ ?_; conv => whnf) | ((with_reducible refine IdxV.nat (by omega) ?_); conv => whnf) | ((with_reducible refine SameW.mk rfl ?_); conv => whnf) | ((with_reducible refine Tst.beqT ?_)) | ((with_reducible refine Tst.beqF ?_)) | (refine Tst.yes rfl ?_; conv => whnf) | (refine Tst.no rfl ?_; conv => whnf))); exact ⟨Ext.refl _, rfl⟩))); (conv => whnf))
      (apply StepD.still; (· intro wd hd; (conv => whnf); (repeat (intro _ _; (conv => whnf))); (first | exact ⟨Ext.refl _, rfl⟩ | ((repeat' (first | (refine Obl.mk ⟨by omega, by omega⟩ ?_; conv => whnf) | (refine Obl.mk ⟨by omega, by omega, ⟨by omega, by omega⟩⟩ ?_; conv => whnf) | ((with_reducible refine Tst.tt ?_); conv => whnf) | ((with_reducible refine Tst.ff ?_); conv => whnf) | ((with_reducible refine Tst.dec (fun _ => ?_) (fun _ => ?_)) <;> first | (exfalso; omega) | (conv => whnf)) | ((with_reducible refine Tst.not ?_)) | (refine Wit.conv ⟨by omega, by omega⟩ ?_; conv => whnf) | ((with_reducible refine IdxV.nat (by omega) ?_); conv => whnf) | ((with_reducible refine SameW.mk rfl ?_); conv => whnf) | ((with_reducible refine Tst.beqT ?_)) | ((with_reducible refine Tst.beqF ?_)) | (refine Tst.yes rfl ?_; conv => whnf) | (refine Tst.no rfl ?_; conv => whnf))); exact ⟨Ext.refl _, rfl⟩))); (conv => whnf))
      (apply StepD.still; (· intro wd hd; (conv => whnf); (repeat (intro _ _; (conv => whnf))); (first | exact ⟨Ext.refl _, rfl⟩ | ((repeat' (first | (refine Obl.mk ⟨by omega, by omega⟩ ?_; conv => whnf) | (refine Obl.mk ⟨by omega, by omega, ⟨by omega, by omega⟩⟩ ?_; conv => whnf) | ((with_reducible refine Tst.tt ?_); conv => whnf) | ((with_reducible refine Tst.ff ?_); conv => whnf) | ((with_reducible refine Tst.dec (fun _ => ?_) (fun _ => ?_)) <;> first | (exfalso; omega) | (conv => whnf)) | ((with_reducible refine Tst.not ?_)) | (refine Wit.conv ⟨by omega, by omega⟩ ?_; conv => whnf) | ((with_reducible refine IdxV.nat (by omega) ?_); conv => whnf) | ((with_reducible refine SameW.mk rfl ?_); conv => whnf) | ((with_reducible refine Tst.beqT ?_)) | ((with_reducible refine Tst.beqF ?_)) | (refine Tst.yes rfl ?_; conv => whnf) | (refine Tst.no rfl ?_; conv => whnf))); exact ⟨Ext.refl _, rfl⟩))); (conv => whnf))
      (apply StepD.still; (· intro wd hd; (conv => whnf); (repeat (intro _ _; (conv => whnf))); (first | exact ⟨Ext.refl _, rfl⟩ | ((repeat' (first | (refine Obl.mk ⟨by omega, by omega⟩ ?_; conv => whnf) | (refine Obl.mk ⟨by omega, by omega, ⟨by omega, by omega⟩⟩ ?_; conv => whnf) | ((with_reducible refine Tst.tt ?_); conv => whnf) | ((with_reducible refine Tst.ff ?_); conv => whnf) | ((with_reducible refine Tst.dec (fun _ => ?_) (fun _ => ?_)) <;> first | (exfalso; omega) | (conv => whnf)) | ((with_reducible refine Tst.not ?_)) | (refine Wit.conv ⟨by omega, by omega⟩ ?_; conv => whnf) | ((with_reducible refine IdxV.nat (by omega) ?_); conv => whnf) | ((with_reducible refine SameW.mk rfl ?_); conv => whnf) | ((with_reducible refine Tst.beqT ?_)) | ((with_reducible refine Tst.beqF ?_)) | (refine Tst.yes rfl ?_; conv => whnf) | (refine Tst.no rfl ?_; conv => whnf))); exact ⟨Ext.refl _, rfl⟩))); (conv => whnf))
      (apply StepD.still; (· intro wd hd; (conv => whnf); (repeat (intro _ _; (conv => whnf))); (first | exact ⟨Ext.refl _, rfl⟩ | ((repeat' (first | (refine Obl.mk ⟨by omega, by omega⟩ ?_; conv => whnf) | (refine Obl.mk ⟨by omega, by omega, ⟨by omega, by omega⟩⟩ ?_; conv => whnf) | ((with_reducible refine Tst.tt ?_); conv => whnf) | ((with_reducible refine Tst.ff ?_); conv => whnf) | ((with_reducible refine Tst.dec (fun _ => ?_) (fun _ => ?_)) <;> first | (exfalso; omega) | (conv => whnf)) | ((with_reducible refine Tst.not ?_)) | (refine Wit.conv ⟨by omega, by omega⟩ ?_; conv => whnf) | ((with_reducible refine IdxV.nat (by omega) ?_); conv => whnf) | ((with_reducible refine SameW.mk rfl ?_); conv => whnf) | ((with_reducible refine Tst.beqT ?_)) | ((with_reducible refine Tst.beqF ?_)) | (refine Tst.yes rfl ?_; conv => whnf) | (refine Tst.no rfl ?_; conv => whnf))); exact ⟨Ext.refl _, rfl⟩))); (conv => whnf))
      (apply StepD.still; (· intro wd hd; (conv => whnf); (repeat (intro _ _; (conv => whnf))); (first | exact ⟨Ext.refl _, rfl⟩ | ((repeat' (first | (refine Obl.mk ⟨by omega, by omega⟩ ?_; conv => whnf) | (refine Obl.mk ⟨by omega, by omega, ⟨by omega, by omega⟩⟩ ?_; conv => whnf) | ((with_reducible refine Tst.tt ?_); conv => whnf) | ((with_reducible refine Tst.ff ?_); conv => whnf) | ((with_reducible refine Tst.dec (fun _ => ?_) (fun _ => ?_)) <;> first | (exfalso; omega) | (conv => whnf)) | ((with_reducible refine Tst.not ?_)) | (refine Wit.conv ⟨by omega, by omega⟩ ?_; conv => whnf) | ((with_reducible refine IdxV.nat (by omega) ?_); conv => whnf) | ((with_reducible refine SameW.mk rfl ?_); conv => whnf) | ((with_reducible refine Tst.beqT ?_)) | ((with_reducible refine Tst.beqF ?_)) | (refine Tst.yes rfl ?_; conv => whnf) | (refine Tst.no rfl ?_; conv => whnf))); exact ⟨Ext.refl _, rfl⟩))); (conv => whnf))
      (apply StepD.still; (· intro wd hd; (conv => whnf); (repeat (intro _ _; (conv => whnf))); (first | exact ⟨Ext.refl _, rfl⟩ | ((repeat' (first | (refine Obl.mk ⟨by omega, by omega⟩ ?_; conv => whnf) | (refine Obl.mk ⟨by omega, by omega, ⟨by omega, by omega⟩⟩ ?_; conv => whnf) | ((with_reducible refine Tst.tt ?_); conv => whnf) | ((with_reducible refine Tst.ff ?_); conv => whnf) | ((with_reducible refine Tst.dec (fun _ => ?_) (fun _ => ?_)) <;> first | (exfalso; omega) | (conv => whnf)) | ((with_reducible refine Tst.not ?_)) | (refine Wit.conv ⟨by omega, by omega⟩ ?_; conv => whnf) | ((with_reducible refine IdxV.nat (by omega) ?_); conv => whnf) | ((with_reducible refine SameW.mk rfl ?_); conv => whnf) | ((with_reducible refine Tst.beqT ?_)) | ((with_reducible refine Tst.beqF ?_)) | (refine Tst.yes rfl ?_; conv => whnf) | (refine Tst.no rfl ?_; conv => whnf))); exact ⟨Ext.refl _, rfl⟩))); (conv => whnf))
      (apply StepD.still; (· intro wd hd; (conv => whnf); (repeat (intro _ _; (conv => whnf))); (first | exact ⟨Ext.refl _, rfl⟩ | ((repeat' (first | (refine Obl.mk ⟨by omega, by omega⟩ ?_; conv => whnf) | (refine Obl.mk ⟨by omega, by omega, ⟨by omega, by omega⟩⟩ ?_; conv => whnf) | ((with_reducible refine Tst.tt ?_); conv => whnf) | ((with_reducible refine Tst.ff ?_); conv => whnf) | ((with_reducible refine Tst.dec (fun _ => ?_) (fun _ => ?_)) <;> first | (exfalso; omega) | (conv => whnf)) | ((with_reducible refine Tst.not ?_)) | (refine Wit.conv ⟨by omega, by omega⟩ ?_; conv => whnf) | ((with_reducible refine IdxV.nat (by omega) ?_); conv => whnf) | ((with_reducible refine SameW.mk rfl ?_); conv => whnf) | ((with_reducible refine Tst.beqT ?_)) | ((with_reducible refine Tst.beqF ?_)) | (refine Tst.yes rfl ?_; conv => whnf) | (refine Tst.no rfl ?_; conv => whnf))); exact ⟨Ext.refl _, rfl⟩))); (conv => whnf))
      (apply StepD.still; (· intro wd hd; (conv => whnf); (repeat (intro _ _; (conv => whnf))); (first | exact ⟨Ext.refl _, rfl⟩ | ((repeat' (first | (refine Obl.mk ⟨by omega, by omega⟩ ?_; conv => whnf) | (refine Obl.mk ⟨by omega, by omega, ⟨by omega, by omega⟩⟩ ?_; conv => whnf) | ((with_reducible refine Tst.tt ?_); conv => whnf) | ((with_reducible refine Tst.ff ?_); conv => whnf) | ((with_reducible refine Tst.dec (fun _ => ?_) (fun _ => ?_)) <;> first | (exfalso; omega) | (conv => whnf)) | ((with_reducible refine Tst.not ?_)) | (refine Wit.conv ⟨by omega, by omega⟩ ?_; conv => whnf) | ((with_reducible refine IdxV.nat (by omega) ?_); conv => whnf) | ((with_reducible refine SameW.mk rfl ?_); conv => whnf) | ((with_reducible refine Tst.beqT ?_)) | ((with_reducible refine Tst.beqF ?_)) | (refine Tst.yes rfl ?_; conv => whnf) | (refine Tst.no rfl ?_; conv => whnf))); exact ⟨Ext.refl _, rfl⟩))); (conv => whnf))
      intro wd hd
      (conv => whnf)
      refine Tst.yes rfl ?_
      (conv => whnf)
      exact ⟨by rw [guessR, if_neg (by rw [hsc]; simp)], hE0.trans hd⟩
    · obtain ⟨r, hr⟩ : ∃ r : Nat, guessI l = r := ⟨(guessI l).toNat, by simp [scalarB] at hsc; omega⟩
      have hr1 : r ≤ 1114111 := by rw [hr] at hsc; simp [scalarB] at hsc; omega
      refine DrawV.free rfl (by kernel_rfl) ?_
      (conv => whnf)
      (apply StepD.still; (· intro wd hd; (conv => whnf); (repeat (intro _ _; (conv => whnf))); (first | exact ⟨Ext.refl _, rfl⟩ | ((repeat' (first | (refine Obl.mk ⟨by omega, by omega⟩ ?_; conv => whnf) | (refine Obl.mk ⟨by omega, by omega, ⟨by omega, by omega⟩⟩ ?_; conv => whnf) | ((with_reducible refine Tst.tt ?_); conv => whnf) | ((with_reducible refine Tst.ff ?_); conv => whnf) | ((with_reducible refine Tst.dec (fun _ => ?_) (fun _ => ?_)) <;> first | (exfalso; omega) | (conv => whnf)) | ((with_reducible refine Tst.not ?_)) | (refine Wit.conv ⟨by omega, by omega⟩ ?_; conv => whnf) | ((with_reducible refine IdxV.nat (by omega) ?_); conv => whnf) | ((with_reducible refine SameW.mk rfl ?_); conv => whnf) | ((with_reducible refine Tst.beqT ?_)) | ((with_reducible refine Tst.beqF ?_)) | (refine Tst.yes rfl ?_; conv => whnf) | (refine Tst.no rfl ?_; conv => whnf))); exact ⟨Ext.refl _, rfl⟩))); (conv => whnf))
      (apply StepD.still; (· intro wd hd; (conv => whnf); (repeat (intro _ _; (conv => whnf))); (first | exact ⟨Ext.refl _, rfl⟩ | ((repeat' (first | (refine Obl.mk ⟨by omega, by omega⟩ ?_; conv => whnf) | (refine Obl.mk ⟨by omega, by omega, ⟨by omega, by omega⟩⟩ ?_; conv => whnf) | ((with_reducible refine Tst.tt ?_); conv => whnf) | ((with_reducible refine Tst.ff ?_); conv => whnf) | ((with_reducible refine Tst.dec (fun _ => ?_) (fun _ => ?_)) <;> first | (exfalso; omega) | (conv => whnf)) | ((with_reducible refine Tst.not ?_)) | (refine Wit.conv ⟨by omega, by omega⟩ ?_; conv => whnf) | ((with_reducible refine IdxV.nat (by omega) ?_); conv => whnf) | ((with_reducible refine SameW.mk rfl ?_); conv => whnf) | ((with_reducible refine Tst.beqT ?_)) | ((with_reducible refine Tst.beqF ?_)) | (refine Tst.yes rfl ?_; conv => whnf) | (refine Tst.no rfl ?_; conv => whnf))); exact ⟨Ext.refl _, rfl⟩))); (conv => whnf))
      (apply StepD.still; (· intro wd hd; (conv => whnf); (repeat (intro _ _; (conv => whnf))); (first | exact ⟨Ext.refl _, rfl⟩ | ((repeat' (first | (refine Obl.mk ⟨by omega, by omega⟩ ?_; conv => whnf) | (refine Obl.mk ⟨by omega, by omega, ⟨by omega, by omega⟩⟩ ?_; conv => whnf) | ((with_reducible refine Tst.tt ?_); conv => whnf) | ((with_reducible refine Tst.ff ?_); conv => whnf) | ((with_reducible refine Tst.dec (fun _ => ?_) (fun _ => ?_)) <;> first | (exfalso; omega) | (conv => whnf)) | ((with_reducible refine Tst.not ?_)) | (refine Wit.conv ⟨by omega, by omega⟩ ?_; conv => whnf) | ((with_reducible refine IdxV.nat (by omega) ?_); conv => whnf) | ((with_reducible refine SameW.mk rfl ?_); conv => whnf) | ((with_reducible refine Tst.beqT ?_)) | ((with_reducible refine Tst.beqF ?_)) | (refine Tst.yes rfl ?_; conv => whnf) | (refine Tst.no rfl ?_; conv => whnf))); exact ⟨Ext.refl _, rfl⟩))); (conv => whnf))
      (apply StepD.still; (· intro wd hd; (conv => whnf); (repeat (intro _ _; (conv => whnf))); (first | exact ⟨Ext.refl _, rfl⟩ | ((repeat' (first | (refine Obl.mk ⟨by omega, by omega⟩ ?_; conv => whnf) | (refine Obl.mk ⟨by omega, by omega, ⟨by omega, by omega⟩⟩ ?_; conv => whnf) | ((with_reducible refine Tst.tt ?_); conv => whnf) | ((with_reducible refine Tst.ff ?_); conv => whnf) | ((with_reducible refine Tst.dec (fun _ => ?_) (fun _ => ?_)) <;> first | (exfalso; omega) | (conv => whnf)) | ((with_reducible refine Tst.not ?_)) | (refine Wit.conv ⟨by omega, by omega⟩ ?_; conv => whnf) | ((with_reducible refine IdxV.nat (by omega) ?_); conv => whnf) | ((with_reducible refine SameW.mk rfl ?_); conv => whnf) | ((with_reducible refine Tst.beqT ?_)) | ((with_reducible refine Tst.beqF ?_)) | (refine Tst.yes rfl ?_; conv => whnf) | (refine Tst.no rfl ?_; conv => whnf))); exact ⟨Ext.refl _, rfl⟩))); (conv => whnf))
      apply StepD.of (fun v w => ∃ b', v = .slice (some ⟨b', 0, none⟩) (encL r).length (encL r).length ∧ CellsAt w b' 0 (byteCells (encL r)))
      · rintro v w w' ⟨b', rfl, h⟩ he
        exact ⟨b', rfl, h.ext he⟩
      · intro wd hd
        (conv => whnf)
        refine Tst.no rfl ?_
        (conv => whnf)
        rw [hr]
        refine CallV.of (refBytes_any r hr1 wd) ?_
        rintro v w4 ⟨b', rfl, h, he⟩
        exact ⟨he, b', rfl, h⟩
      (conv => whnf)
      apply StepD.still
      · intro wd hd
        (conv => whnf)
        rintro _ ⟨b', rfl, h⟩
        (conv => whnf)
        refine Tst.no rfl ?_
        (conv => whnf)
        refine BytesS.all h rfl ?_
        exact ⟨Ext.refl _, rfl⟩
      (conv => whnf)
      (apply StepD.still; (· intro wd hd; (conv => whnf); (repeat (intro _ _; (conv => whnf))); (first | exact ⟨Ext.refl _, rfl⟩ | ((repeat' (first | (refine Obl.mk ⟨by omega, by omega⟩ ?_; conv => whnf) | (refine Obl.mk ⟨by omega, by omega, ⟨by omega, by omega⟩⟩ ?_; conv => whnf) | ((with_reducible refine Tst.tt ?_); conv => whnf) | ((with_reducible refine Tst.ff ?_); conv => whnf) | ((with_reducible refine Tst.dec (fun _ => ?_) (fun _ => ?_)) <;> first | (exfalso; omega) | (conv => whnf)) | ((with_reducible refine Tst.not ?_)) | (refine Wit.conv ⟨by omega, by omega⟩ ?_; conv => whnf) | ((with_reducible refine IdxV.nat (by omega) ?_); conv => whnf) | ((with_reducible refine SameW.mk rfl ?_); conv => whnf) | ((with_reducible refine Tst.beqT ?_)) | ((with_reducible refine Tst.beqF ?_)) | (refine Tst.yes rfl ?_; conv => whnf) | (refine Tst.no rfl ?_; conv => whnf))); exact ⟨Ext.refl _, rfl⟩))); (conv => whnf))
      apply StepD.still
      · intro wd hd
        (conv => whnf)
        refine Tst.no rfl ?_
        (conv => whnf)
        refine BytesS.all (hbs.ext hd) rfl ?_
        exact ⟨Ext.refl _, rfl⟩
      (conv => whnf)
      (apply StepD.still; (· intro wd hd; (conv => whnf); (repeat (intro _ _; (conv => whnf))); (first | exact ⟨Ext.refl _, rfl⟩ | ((repeat' (first | (refine Obl.mk ⟨by omega, by omega⟩ ?_; conv => whnf) | (refine Obl.mk ⟨by omega, by omega, ⟨by omega, by omega⟩⟩ ?_; conv => whnf) | ((with_reducible refine Tst.tt ?_); conv => whnf) | ((with_reducible refine Tst.ff ?_); conv => whnf) | ((with_reducible refine Tst.dec (fun _ => ?_) (fun _ => ?_)) <;> first | (exfalso; omega) | (conv => whnf)) | ((with_reducible refine Tst.not ?_)) | (refine Wit.conv ⟨by omega, by omega⟩ ?_; conv => whnf) | ((with_reducible refine IdxV.nat (by omega) ?_); conv => whnf) | ((with_reducible refine SameW.mk rfl ?_); conv => whnf) | ((with_reducible refine Tst.beqT ?_)) | ((with_reducible refine Tst.beqF ?_)) | (refine Tst.yes rfl ?_; conv => whnf) | (refine Tst.no rfl ?_; conv => whnf))); exact ⟨Ext.refl _, rfl⟩))); (conv => whnf))
      (apply StepD.still; (· intro wd hd; (conv => whnf); (repeat (intro _ _; (conv => whnf))); (first | exact ⟨Ext.refl _, rfl⟩ | ((repeat' (first | (refine Obl.mk ⟨by omega, by omega⟩ ?_; conv => whnf) | (refine Obl.mk ⟨by omega, by omega, ⟨by omega, by omega⟩⟩ ?_; conv => whnf) | ((with_reducible refine Tst.tt ?_); conv => whnf) | ((with_reducible refine Tst.ff ?_); conv => whnf) | ((with_reducible refine Tst.dec (fun _ => ?_) (fun _ => ?_)) <;> first | (exfalso; omega) | (conv => whnf)) | ((with_reducible refine Tst.not ?_)) | (refine Wit.conv ⟨by omega, by omega⟩ ?_; conv => whnf) | ((with_reducible refine IdxV.nat (by omega) ?_); conv => whnf) | ((with_reducible refine SameW.mk rfl ?_); conv => whnf) | ((with_reducible refine Tst.beqT ?_)) | ((with_reducible refine Tst.beqF ?_)) | (refine Tst.yes rfl ?_; conv => whnf) | (refine Tst.no rfl ?_; conv => whnf))); exact ⟨Ext.refl _, rfl⟩))); (conv => whnf))
      intro wd hd
      (conv => whnf)
      intro v _
      (conv => whnf)
      have hseq : seq ⟨(encL r).toArray⟩ ⟨l.toArray⟩ = decide (encL r = l) := by
        rw [Bool.eq_iff_iff, seq_iff, decide_eq_true_iff]
        constructor
        · intro h
          have : (⟨(encL r).toArray⟩ : ByteArray).data.toList = (⟨l.toArray⟩ : ByteArray).data.toList := by rw [h]
          simpa using this
        · intro h; rw [h]
      by_cases hel : encL r = l
      · refine Tst.no (by rw [hseq, decide_eq_true hel]; rfl) ?_
        (conv => whnf)
        exact ⟨by rw [guessR, if_pos ⟨hsc, by rw [hr, Int.toNat_natCast]; exact hel⟩], hE0.trans hd⟩
      · refine Tst.yes (by rw [hseq, decide_eq_false hel]; rfl) ?_
        (conv => whnf)
        exact ⟨by rw [guessR, if_neg (fun h => hel (by have := h.2; rwa [hr, Int.toNat_natCast] at this))], hE0.trans hd⟩
end Go.Proofs.YtajgbepghniciaaGreatDoor
namespace Go.Proofs.YtajgbepghniciaaGreatDoor
open Go.RowKit V
set_option maxRecDepth 100000

theorem decN_zero {l : List UInt8} (h : (decN l).2 = 0) : decN l = (0, 0) := by
  unfold decN at h ⊢
  match l with
  | [] => rfl
  | a :: t =>
    simp only at h ⊢
    split
    · rfl
    · rename_i hn
      rw [if_neg hn] at h
      split
      · rename_i hc
        rw [if_pos hc] at h
        split
        · rfl
        · rename_i hs
          rw [if_neg hs] at h
          simp only at h
          omega
      · rfl
/-- what is encoded is decoded -/
theorem dec_enc (r : Nat) (h : scalarB r = true) (t : List UInt8) : decN (encL r ++ t) = (r, (encL r).length) := by
  have hr : r ≤ 1114111 ∧ (r < 55296 ∨ 57343 < r) := by simp [scalarB] at h; omega
  have tn : ∀ n : Nat, n < 256 → (UInt8.ofNat n).toNat = n := fun n hn => by rw [UInt8.toNat_ofNat']; omega
  unfold encL
  by_cases h1 : r < 128
  · rw [if_pos h1]
    have e : leadI r = (1, r) := by rw [leadI, if_pos h1]
    simp only [List.cons_append, List.nil_append, decN, tn r (by omega), e, Nat.sub_self, List.take_zero, List.all_nil, if_true, accR, List.foldl_nil, leastN]
    rw [if_neg (by simp), h]
    simp
  rw [if_neg h1]
  by_cases h2 : r < 2048
  · rw [if_pos h2]
    have e : leadI (192 + r / 64) = (2, r / 64) := by rw [leadI, if_neg (by omega), if_neg (by omega), if_pos (by omega)]; congr 1; omega
    have c : cont (UInt8.ofNat (128 + r % 64)) = true := by rw [cont, tn _ (by omega)]; simp; omega
    have hacc : r / 64 * 64 + (128 + r % 64) % 64 = r := by omega
    simp only [List.cons_append, List.nil_append, decN, tn (192 + r / 64) (by omega), e, List.length_cons, Nat.reduceSub, List.take_succ_cons, List.take_zero, List.all_cons, List.all_nil, Bool.and_true, c, if_true, accR, List.foldl_cons, List.foldl_nil, tn (128 + r % 64) (by omega), hacc]
    rw [if_neg (by omega), if_neg (by rw [h, show leastN 2 = 128 from rfl]; simp; omega)]
    rfl
  rw [if_neg h2]
  by_cases h3 : r < 65536
  · rw [if_pos h3]
    have e : leadI (224 + r / 4096) = (3, r / 4096) := by rw [leadI, if_neg (by omega), if_neg (by omega), if_neg (by omega), if_pos (by omega)]; congr 1; omega
    have c : cont (UInt8.ofNat (128 + r % 64)) = true := by rw [cont, tn _ (by omega)]; simp; omega
    have c2 : cont (UInt8.ofNat (128 + r / 64 % 64)) = true := by rw [cont, tn _ (by omega)]; simp; omega
    have hacc : (r / 4096 * 64 + (128 + r / 64 % 64) % 64) * 64 + (128 + r % 64) % 64 = r := by omega
    simp only [List.cons_append, List.nil_append, decN, tn (224 + r / 4096) (by omega), e, List.length_cons, Nat.reduceSub, List.take_succ_cons, List.take_zero, List.all_cons, List.all_nil, Bool.and_true, c, c2, if_true, accR, List.foldl_cons, List.foldl_nil, tn (128 + r % 64) (by omega), tn (128 + r / 64 % 64) (by omega), hacc]
    rw [if_neg (by omega), if_neg (by rw [h, show leastN 3 = 2048 from rfl]; simp; omega)]
    rfl
  rw [if_neg h3]
  have e : leadI (240 + r / 262144) = (4, r / 262144) := by rw [leadI, if_neg (by omega), if_neg (by omega), if_neg (by omega), if_neg (by omega), if_pos (by omega)]; congr 1; omega
  have c : cont (UInt8.ofNat (128 + r % 64)) = true := by rw [cont, tn _ (by omega)]; simp; omega
  have c2 : cont (UInt8.ofNat (128 + r / 64 % 64)) = true := by rw [cont, tn _ (by omega)]; simp; omega
  have c3 : cont (UInt8.ofNat (128 + r / 4096 % 64)) = true := by rw [cont, tn _ (by omega)]; simp; omega
  have hacc : ((r / 262144 * 64 + (128 + r / 4096 % 64) % 64) * 64 + (128 + r / 64 % 64) % 64) * 64 + (128 + r % 64) % 64 = r := by omega
  simp only [List.cons_append, List.nil_append, decN, tn (240 + r / 262144) (by omega), e, List.length_cons, Nat.reduceSub, List.take_succ_cons, List.take_zero, List.all_cons, List.all_nil, Bool.and_true, c, c2, c3, if_true, accR, List.foldl_cons, List.foldl_nil, tn (128 + r % 64) (by omega), tn (128 + r / 64 % 64) (by omega), tn (128 + r / 4096 % 64) (by omega), hacc]
  rw [if_neg (by omega), if_neg (by rw [h, show leastN 4 = 65536 from rfl]; simp; omega)]
  rfl
/-- a guess meets just the scalar that stands there -/
theorem guess_hit (L : List UInt8) (n : Nat) (h : 0 ≤ guessR (L.take n)) (hn : n ≤ L.length) : decN L = ((guessR (L.take n)).toNat, n) := by
  unfold guessR at h ⊢
  split at h
  · rename_i hg
    rw [if_pos hg]
    obtain ⟨h1, h2⟩ := hg
    have hr : guessI (L.take n) = ((guessI (L.take n)).toNat : Int) := by simp [scalarB] at h1; omega
    rw [hr] at h1
    have hd := dec_enc _ h1 (L.drop n)
    rw [h2, List.take_append_drop] at hd
    rw [hd]
    simp; omega
  · omega
theorem guess_ok (L : List UInt8) (h : (decN L).2 ≠ 0) : guessR (L.take (decN L).2) = (decN L).1 := by
  obtain ⟨h1, h2, h3⟩ := decN_enc h
  have hg : guessI (L.take (decN L).2) = (decN L).1 := by
    rcases decN_cases L h with ⟨a, t, rfl, e, h1⟩ | ⟨a, b, t, rfl, e, h1, h2, h3, h4⟩ | ⟨a, b, c, t, rfl, e, h1, h2, h3, h4, h5, h6⟩ | ⟨a, b, c, d, t, rfl, e, h1, h2, h3, h4, h5, h6, h7⟩
    all_goals
      rw [e]
      simp only [List.take_succ_cons, List.take_zero, guessI, List.headD_cons, List.tail_cons, List.length_cons, List.length_nil, gacc, List.foldl_cons, List.foldl_nil]
    · show (a.toNat : Int) - 0 = _; omega
    · show ((a.toNat : Int) - 192) * 64 + b.toNat - 128 = _; omega
    · show (((a.toNat : Int) - 224) * 64 + b.toNat - 128) * 64 + c.toNat - 128 = _; omega
    · show ((((a.toNat : Int) - 240) * 64 + b.toNat - 128) * 64 + c.toNat - 128) * 64 + d.toNat - 128 = _; omega
  unfold guessR
  rw [hg, if_pos ⟨h1, by rw [Int.toNat_natCast]; exact h2⟩]

theorem refNext_any (s : ByteArray) (p : Nat) (hp : p < s.size) (hs : s.size ≤ 140737488355328) (w : World) :
    Gv Tryz.prog 198 [.string s, .int .i64 p] w fun v w' => v = .tuple #[.int .i64 (decN (s.data.toList.drop p)).1, .int .i64 (decN (s.data.toList.drop p)).2] ∧ Ext w w' := by
  obtain ⟨L, hL⟩ : ∃ L, L = s.data.toList.drop p := ⟨_, rfl⟩
  have hll : L.length = s.size - p := by rw [hL, drop_len]
  have hle := decN_le L
  have hle4 := decN_le4 L
  rw [← hL]
  refine gv (by kernel_rfl) Tryz.func198 rfl Tryz.ntmps198 rfl ?_; conv => whnf
  (repeat' (first
      | (refine Obl.mk ⟨by omega, by omega⟩ ?_; conv => whnf)
      | (refine Obl.mk ⟨by omega, by omega, ⟨by omega, by omega⟩⟩ ?_; conv => whnf)
      | ((with_reducible refine Tst.tt ?_); conv => whnf)
      | ((with_reducible refine Tst.ff ?_); conv => whnf)
      | ((with_reducible refine Tst.dec (fun _ => ?_) (fun _ => ?_)) <;> first | (exfalso; omega) | (conv => whnf))
      | ((with_reducible refine Tst.not ?_))
      | (refine Wit.conv ⟨by omega, by omega⟩ ?_; conv => whnf)
      | ((with_reducible refine IdxV.nat (by omega) ?_); conv => whnf)
      | ((with_reducible refine SameW.mk rfl ?_); conv => whnf)
      | (refine LoadV.mem (i := 0) (by assumption) rfl rfl ?_; conv => whnf)
      | (refine LoadV.mem (i := 1) (by assumption) rfl rfl ?_; conv => whnf)
      | (refine LoadV.mem (i := 2) (by assumption) rfl rfl ?_; conv => whnf)
      | ((with_reducible refine Tst.beqT ?_))
      | ((with_reducible refine Tst.beqF ?_))
      | (refine Tst.yes rfl ?_; conv => whnf)
      | (refine Tst.no rfl ?_; conv => whnf)))
  refine loopV (fun n : Nat => [(0, .string s), (1, .int .i64 p), (6, .int .i64 n)]) (fun n w1 => 1 ≤ n ∧ n ≤ 5 ∧ n ≤ L.length + 1 ∧ (∀ m, m < n → m = 0 ∨ (decN L).2 ≠ m) ∧ Ext w w1) (fun n => 5 - n) 1 ⟨rfl, rfl, rfl, trivial⟩ ⟨by omega, by omega, by omega, fun m hm => .inl (by omega), Ext.refl _⟩ ?_
  rintro n w1 ρ' ⟨h1, h2, h3, h4, he⟩
  (conv => whnf)
  (repeat' (first
      | (refine Obl.mk ⟨by omega, by omega⟩ ?_; conv => whnf)
      | (refine Obl.mk ⟨by omega, by omega, ⟨by omega, by omega⟩⟩ ?_; conv => whnf)
      | ((with_reducible refine Tst.tt ?_); conv => whnf)
      | ((with_reducible refine Tst.ff ?_); conv => whnf)
      | ((with_reducible refine Tst.dec (fun _ => ?_) (fun _ => ?_)) <;> first | (exfalso; omega) | (conv => whnf))
      | ((with_reducible refine Tst.not ?_))
      | (refine Wit.conv ⟨by omega, by omega⟩ ?_; conv => whnf)
      | ((with_reducible refine IdxV.nat (by omega) ?_); conv => whnf)
      | ((with_reducible refine SameW.mk rfl ?_); conv => whnf)
      | (refine LoadV.mem (i := 0) (by assumption) rfl rfl ?_; conv => whnf)
      | (refine LoadV.mem (i := 1) (by assumption) rfl rfl ?_; conv => whnf)
      | (refine LoadV.mem (i := 2) (by assumption) rfl rfl ?_; conv => whnf)
      | ((with_reducible refine Tst.beqT ?_))
      | ((with_reducible refine Tst.beqF ?_))
      | (refine Tst.yes rfl ?_; conv => whnf)
      | (refine Tst.no rfl ?_; conv => whnf)))
  · refine SliceS.at_ p (p + n) rfl (show (p : Int) + (n : Int) = ((p + n : Nat) : Int) by omega) (by omega) (by omega) ?_
    have hx : (s.extract p (p + n)).data.toList = L.take n := by
      rw [Lib.extract_data, hL]; congr 1; omega
    have hxs : (s.extract p (p + n)).size = n := by
      rw [ByteArray.size_extract]; omega
    (conv => whnf)
    refine ⟨fun cap cs b w2 hcap hcs hb hw => ?_⟩
    have he2 : Ext w w2 := by rw [hw]; exact he.drew.alloc _
    have hcell : CellsAt w2 b 0 (byteCells (L.take n)) := fun k v hv => by
      have hget : w2.heap[b]? = some (.cells cs 5 (cs.size, cs.size + 1)) := by
        subst hw hb; exact heap_alloc_new _ _
      rw [cell_heap hget, Nat.zero_add, hcs, hx]
      have : k < (byteCells (L.take n)).length := (List.getElem?_eq_some_iff.1 hv).1
      rw [List.getElem?_toArray, List.getElem?_append_left this]; exact hv
    have hg := guess_any (L.take n) b cap w2 hcell (by rw [List.length_take]; omega) (by rw [List.length_take]; omega)
    rw [show (L.take n).length = (s.extract p (p + n)).size by rw [hxs, List.length_take]; omega] at hg
    (conv => whnf)
    refine CallV.of (hg) ?_
    rintro v w3 ⟨rfl, he3⟩
    have hlt : -1 ≤ guessR (L.take n) := by
      unfold guessR; split
      · rename_i h; have := h.1; simp [scalarB] at this; omega
      · omega
    (conv => whnf)
    (repeat' (first
      | (refine Obl.mk ⟨by omega, by omega⟩ ?_; conv => whnf)
      | (refine Obl.mk ⟨by omega, by omega, ⟨by omega, by omega⟩⟩ ?_; conv => whnf)
      | ((with_reducible refine Tst.tt ?_); conv => whnf)
      | ((with_reducible refine Tst.ff ?_); conv => whnf)
      | ((with_reducible refine Tst.dec (fun _ => ?_) (fun _ => ?_)) <;> first | (exfalso; omega) | (conv => whnf))
      | ((with_reducible refine Tst.not ?_))
      | (refine Wit.conv ⟨by omega, by omega⟩ ?_; conv => whnf)
      | ((with_reducible refine IdxV.nat (by omega) ?_); conv => whnf)
      | ((with_reducible refine SameW.mk rfl ?_); conv => whnf)
      | (refine LoadV.mem (i := 0) (by assumption) rfl rfl ?_; conv => whnf)
      | (refine LoadV.mem (i := 1) (by assumption) rfl rfl ?_; conv => whnf)
      | (refine LoadV.mem (i := 2) (by assumption) rfl rfl ?_; conv => whnf)
      | ((with_reducible refine Tst.beqT ?_))
      | ((with_reducible refine Tst.beqF ?_))
      | (refine Tst.yes rfl ?_; conv => whnf)
      | (refine Tst.no rfl ?_; conv => whnf)))
    · have hhit := guess_hit L n (by omega) (by omega)
      refine ⟨?_, he2.trans he3⟩
      rw [hhit]
      show Value.tuple #[.int .i64 _, .int .i64 _] = .tuple #[.int .i64 ((guessR (L.take n)).toNat : Int), .int .i64 (n : Int)]
      rw [Int.toNat_of_nonneg (by omega)]
    · refine ⟨n + 1, ⟨rfl, rfl, rfl, trivial⟩, ⟨by omega, by omega, by omega, fun m hm => ?_, he2.trans he3⟩, by omega⟩
      rcases Nat.lt_or_ge m n with h | h
      · exact h4 m h
      · obtain rfl : m = n := by omega
        refine .inr fun hd => ?_
        have := guess_ok L (by omega)
        rw [hd] at this; omega
  · have hz : (decN L).2 = 0 := by
      rcases Nat.eq_zero_or_pos (decN L).2 with h | h
      · exact h
      · rcases h4 (decN L).2 (by omega) with h' | h'
        · omega
        · exact absurd rfl h'
    rw [decN_zero hz]; exact ⟨rfl, he⟩
  · have hz : (decN L).2 = 0 := by
      rcases Nat.eq_zero_or_pos (decN L).2 with h | h
      · exact h
      · rcases h4 (decN L).2 (by omega) with h' | h'
        · omega
        · exact absurd rfl h'
    rw [decN_zero hz]; exact ⟨rfl, he⟩

theorem refCheck_any (s : ByteArray) (hs : s.size ≤ 140737488355328) (w : World) :
    Gv Tryz.prog 127 [.string s] w fun v w' => (∃ i : Int, v = .int .i64 i ∧ i < 4611686018427387904 ∧ (scal s.data.toList ≠ none → i = -1) ∧ (scal s.data.toList = none → 0 ≤ i)) ∧ Ext w w' := by
  refine gv (by kernel_rfl) Tryz.func127 rfl Tryz.ntmps127 rfl ?_; conv => whnf
  refine loopV (fun p : Nat => [(0, .string s), (3, .int .i64 p)]) (fun p w1 => p ≤ s.size ∧ (scal s.data.toList = none ↔ scal (s.data.toList.drop p) = none) ∧ Ext w w1) (fun p => s.size - p) 0 ⟨rfl, rfl, trivial⟩ ⟨by omega, by simp, Ext.refl _⟩ ?_
  rintro p w1 ρ' ⟨h1, h2, he⟩
  (conv => whnf)
  (repeat' (first
      | (refine Obl.mk ⟨by omega, by omega⟩ ?_; conv => whnf)
      | (refine Obl.mk ⟨by omega, by omega, ⟨by omega, by omega⟩⟩ ?_; conv => whnf)
      | ((with_reducible refine Tst.tt ?_); conv => whnf)
      | ((with_reducible refine Tst.ff ?_); conv => whnf)
      | ((with_reducible refine Tst.dec (fun _ => ?_) (fun _ => ?_)) <;> first | (exfalso; omega) | (conv => whnf))
      | ((with_reducible refine Tst.not ?_))
      | (refine Wit.conv ⟨by omega, by omega⟩ ?_; conv => whnf)
      | ((with_reducible refine IdxV.nat (by omega) ?_); conv => whnf)
      | ((with_reducible refine SameW.mk rfl ?_); conv => whnf)
      | (refine LoadV.mem (i := 0) (by assumption) rfl rfl ?_; conv => whnf)
      | (refine LoadV.mem (i := 1) (by assumption) rfl rfl ?_; conv => whnf)
      | (refine LoadV.mem (i := 2) (by assumption) rfl rfl ?_; conv => whnf)
      | ((with_reducible refine Tst.beqT ?_))
      | ((with_reducible refine Tst.beqF ?_))
      | (refine Tst.yes rfl ?_; conv => whnf)
      | (refine Tst.no rfl ?_; conv => whnf)))
  · refine CallV.of (refNext_any s p (by omega) hs _) ?_
    rintro v w' ⟨rfl, he'⟩
    have hle := decN_le (s.data.toList.drop p)
    rw [drop_len] at hle
    (conv => whnf)
    (repeat' (first
      | (refine Obl.mk ⟨by omega, by omega⟩ ?_; conv => whnf)
      | (refine Obl.mk ⟨by omega, by omega, ⟨by omega, by omega⟩⟩ ?_; conv => whnf)
      | ((with_reducible refine Tst.tt ?_); conv => whnf)
      | ((with_reducible refine Tst.ff ?_); conv => whnf)
      | ((with_reducible refine Tst.dec (fun _ => ?_) (fun _ => ?_)) <;> first | (exfalso; omega) | (conv => whnf))
      | ((with_reducible refine Tst.not ?_))
      | (refine Wit.conv ⟨by omega, by omega⟩ ?_; conv => whnf)
      | ((with_reducible refine IdxV.nat (by omega) ?_); conv => whnf)
      | ((with_reducible refine SameW.mk rfl ?_); conv => whnf)
      | (refine LoadV.mem (i := 0) (by assumption) rfl rfl ?_; conv => whnf)
      | (refine LoadV.mem (i := 1) (by assumption) rfl rfl ?_; conv => whnf)
      | (refine LoadV.mem (i := 2) (by assumption) rfl rfl ?_; conv => whnf)
      | ((with_reducible refine Tst.beqT ?_))
      | ((with_reducible refine Tst.beqF ?_))
      | (refine Tst.yes rfl ?_; conv => whnf)
      | (refine Tst.no rfl ?_; conv => whnf)))
    · refine ⟨⟨p, rfl, by omega, fun h => ?_, fun _ => by omega⟩, he.trans he'⟩
      exact absurd (h2.2 (scal_none (drop_ne s p (by omega)) (by omega))) h
    · refine ⟨p + (decN (s.data.toList.drop p)).2, ⟨rfl, rfl, trivial⟩, ⟨by omega, ?_, he.trans he'⟩, by omega⟩
      rw [h2, scal_step (drop_ne s p (by omega)) (by omega), List.drop_drop]
      simp
  · refine ⟨⟨-1, rfl, by omega, fun _ => rfl, fun h => ?_⟩, he⟩
    rw [h2, List.drop_eq_nil_of_le (by simp; omega)] at h
    rw [scal] at h; cases h
end Go.Proofs.YtajgbepghniciaaGreatDoor
