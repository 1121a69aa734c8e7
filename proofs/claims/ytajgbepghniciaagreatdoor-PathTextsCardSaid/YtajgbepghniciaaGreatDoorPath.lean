/- path.Check. -/
import Derived.Test.YtajgbepghniciaaGreatDoorTerm
namespace Go.Proofs.YtajgbepghniciaaGreatDoor
open Go.RowKit V
set_option maxRecDepth 100000

open Classical in
/-- the heap of nodes, its top ahead, behind one node more -/
noncomputable def stepH (hp : List Nat) (i : Nat) (n : PN) : Option (List Nat) :=
  if FieldsP n then
    if n.op = 1 ∨ n.op = 8 then some (i :: hp)
    else if n.op = 3 ∨ n.op = 4 then
      match hp with
      | t :: u :: r => if n.a = u ∧ n.b = t then some (i :: r) else none
      | _ => none
    else match hp with
      | t :: r => if n.a = t then some (i :: r) else none
      | [] => none
  else none
theorem stepH_none {hp : List Nat} {i : Nat} {n : PN} (h : ¬ FieldsP n) : stepH hp i n = none := by unfold stepH; rw [if_neg h]
theorem stepH_leaf {hp : List Nat} {i : Nat} {n : PN} (h : FieldsP n) (ho : n.op = 1 ∨ n.op = 8) : stepH hp i n = some (i :: hp) := by unfold stepH; rw [if_pos h, if_pos ho]
theorem stepH_bin {hp : List Nat} {i : Nat} {n : PN} (h : FieldsP n) (ho : n.op = 3 ∨ n.op = 4) : stepH hp i n = match hp with
      | t :: u :: r => if n.a = u ∧ n.b = t then some (i :: r) else none
      | _ => none := by unfold stepH; rw [if_pos h, if_neg (by omega), if_pos ho]
theorem stepH_un {hp : List Nat} {i : Nat} {n : PN} (h : FieldsP n) (ho : ¬ (n.op = 1 ∨ n.op = 8)) (ho2 : ¬ (n.op = 3 ∨ n.op = 4)) : stepH hp i n = match hp with
      | t :: r => if n.a = t then some (i :: r) else none
      | [] => none := by unfold stepH; rw [if_pos h, if_neg ho, if_neg ho2]
noncomputable def runH : List PN → Nat → List Nat → Option (List Nat)
  | [], _, hp => some hp
  | n :: l, i, hp => match stepH hp i n with
    | some hp' => runH l (i + 1) hp'
    | none => none
def CheckP (p : List PN) : Prop := 1 ≤ p.length ∧ p.length ≤ 64 ∧ ∃ x, runH p 0 [] = some [x]
open Classical in
noncomputable def pathE (p : List PN) : Nat := if CheckP p then 0 else 220
theorem pathE_ok {p : List PN} (h : CheckP p) : pathE p = 0 := by unfold pathE; rw [if_pos h]
theorem pathE_no {p : List PN} (h : ¬ CheckP p) : pathE p = 220 := by unfold pathE; rw [if_neg h]

/-- the first node that each node on the heap is made of -/
def Chain : List Nat → List Int → Prop
  | [], _ => True
  | [t], fl => fl[t]? = some 0
  | t :: u :: r, fl => fl[t]? = some ((u : Int) + 1) ∧ Chain (u :: r) fl
def Desc : List Nat → Nat → Prop
  | [], i => i = 0
  | t :: r, i => t + 1 = i ∧ (∀ u ∈ r, u < t)
theorem Chain.set {hp : List Nat} {fl : List Int} {i : Nat} (x : Int) (h : Chain hp fl) (hi : ∀ t ∈ hp, t ≠ i) : Chain hp (fl.set i x) := by
  induction hp with
  | nil => trivial
  | cons t r ih =>
    cases r with
    | nil => simp only [Chain] at h ⊢; rw [List.getElem?_set_ne (fun e => hi t (by simp) e.symm)]; exact h
    | cons u r =>
      simp only [Chain] at h ⊢
      rw [List.getElem?_set_ne (fun e => hi t (by simp) e.symm)]
      exact ⟨h.1, ih h.2 (fun t ht => hi t (by simp [ht]))⟩
theorem chainTop {t i : Nat} {r : List Nat} {fl : List Int} (h : Chain (t :: r) fl) (ht : t < fl.length) (hi : i < fl.length) (hn : ∀ y ∈ t :: r, y ≠ i) : Chain (i :: r) (fl.set i fl[t]) := by
  cases r with
  | nil =>
    simp only [Chain] at h ⊢
    rw [List.getElem?_set_self hi, ← h, List.getElem?_eq_getElem ht]
  | cons u r =>
    simp only [Chain] at h ⊢
    refine ⟨?_, h.2.set _ (fun y hy => hn y (by simp [hy]))⟩
    rw [List.getElem?_set_self hi, ← h.1, List.getElem?_eq_getElem ht]
theorem zerosL_ints (n : Nat) : zerosL [.int .i64 0] n = (List.replicate n (0 : Int)).map (Value.int .i64) := by
  induction n with
  | zero => rfl
  | succ n ih => simp [zerosL, ih, List.replicate_succ]

theorem pathCheck_any (p : List PN) (A : Option Addr) (c : Nat) (w : World) (hA : SlAt encN 6 w A p) (hN : ∀ n ∈ p, NodeOk w n) (hl : p.length ≤ 140737488355328) :
    Gv Tryz.prog 11 [.slice A p.length c] w fun v w' => v = .int .i64 (pathE p) ∧ Ext w w' := by
  refine gv (by kernel_rfl) Tryz.func11 rfl Tryz.ntmps11 rfl ?_; conv => whnf
  (repeat' (first
      | (refine Obl.mk ⟨by omega, by omega⟩ ?_; conv => whnf)
      | (refine Obl.mk ⟨by omega, by omega, ⟨by omega, by omega⟩⟩ ?_; conv => whnf)
      | ((with_reducible refine Tst.tt ?_); conv => whnf)
      | ((with_reducible refine Tst.ff ?_); conv => whnf)
      | ((with_reducible refine Tst.dec (fun _ => ?_) (fun _ => ?_)) <;> first | (exfalso; omega) | (conv => whnf))
      | ((with_reducible refine Tst.not ?_))
      | (refine Wit.conv ⟨by omega, by omega⟩ ?_; conv => whnf)
      | ((with_reducible refine IdxV.nat (by omega) ?_); conv => whnf)
      | ((with_reducible refine SameW.mk rfl ?_); conv => whnf)
      | (refine LoadV.mem (i := 0) (by assumption) rfl rfl ?_; conv => whnf)
      | (refine LoadV.mem (i := 1) (by assumption) rfl rfl ?_; conv => whnf)
      | (refine LoadV.mem (i := 2) (by assumption) rfl rfl ?_; conv => whnf)
      | ((with_reducible refine Tst.beqT ?_))
      | ((with_reducible refine Tst.beqF ?_))
      | (refine Tst.yes rfl ?_; conv => whnf)
      | (refine Tst.no rfl ?_; conv => whnf)))
  · exact ⟨by rw [pathE_no (fun h => by have := h.1; omega)]; rfl, Ext.refl _⟩
  · exact ⟨by rw [pathE_no (fun h => by have := h.2.1; omega)]; rfl, Ext.refl _⟩
  · refine ⟨p.length, p.length, rfl, rfl, by omega, show p.length * 8 ≤ 140737488355328 by omega, by omega, ?_⟩
    intro fb w1 hfb hw1
    have hm : Mem w w1 [(fb, .cells (zerosL [.int .i64 0] p.length).toArray 3 (0, 0))] := (Mem.nil w).new hfb hw1
    rw [zerosL_ints] at hm
    clear hfb hw1
    (conv => whnf)
    refine loopV (fun x : Nat × List Nat × List Int => [(0, .slice A p.length c), (3, .slice (some ⟨fb, 0, none⟩) p.length p.length), (17, .slice A p.length c), (18, .int .i64 p.length), (19, .int .i64 x.1)])
      (fun x w2 => x.1 ≤ p.length ∧ x.2.2.length = p.length ∧ Mem w w2 [(fb, .cells (x.2.2.map (Value.int .i64)).toArray 3 (0, 0))] ∧ runH p 0 [] = runH (p.drop x.1) x.1 x.2.1 ∧ Desc x.2.1 x.1 ∧ Chain x.2.1 x.2.2 ∧ (∀ y ∈ x.2.2, 0 ≤ y ∧ y ≤ p.length))
      (fun x => p.length - x.1) (0, [], List.replicate p.length 0) ⟨rfl, rfl, rfl, rfl, rfl, trivial⟩ ⟨by simp, by simp, hm, rfl, rfl, trivial, fun y hy => by rw [List.mem_replicate] at hy; omega⟩ ?_
    rintro ⟨i, hp, fl⟩ w2 ρ' ⟨h1, h2, hm, hr, hd, hc, hb⟩
    simp only at h1 h2 hm hr hd hc hb
    have hcell : ∀ j (hj : j < fl.length), ((fl.map (Value.int .i64)).toArray)[j]? = some (.int .i64 fl[j]) := fun j hj => by simp [hj]
    dsimp only
    (conv => whnf)
    (repeat' (first
      | (refine Obl.mk ⟨by omega, by omega⟩ ?_; conv => whnf)
      | (refine Obl.mk ⟨by omega, by omega, ⟨by omega, by omega⟩⟩ ?_; conv => whnf)
      | ((with_reducible refine Tst.tt ?_); conv => whnf)
      | ((with_reducible refine Tst.ff ?_); conv => whnf)
      | ((with_reducible refine Tst.dec (fun _ => ?_) (fun _ => ?_)) <;> first | (exfalso; omega) | (conv => whnf))
      | ((with_reducible refine Tst.not ?_))
      | (refine Wit.conv ⟨by omega, by omega⟩ ?_; conv => whnf)
      | ((with_reducible refine IdxV.nat (by omega) ?_); conv => whnf)
      | ((with_reducible refine SameW.mk rfl ?_); conv => whnf)
      | (refine LoadV.mem (i := 0) (by assumption) rfl rfl ?_; conv => whnf)
      | (refine LoadV.mem (i := 1) (by assumption) rfl rfl ?_; conv => whnf)
      | (refine LoadV.mem (i := 2) (by assumption) rfl rfl ?_; conv => whnf)
      | ((with_reducible refine Tst.beqT ?_))
      | ((with_reducible refine Tst.beqF ?_))
      | (refine Tst.yes rfl ?_; conv => whnf)
      | (refine Tst.no rfl ?_; conv => whnf)))
    · refine ElemV.sl (hA.ext hm.ext) rfl i rfl (by omega) ?_
      intro b off hcs
      have hi : i < p.length := by omega
      obtain ⟨n, hn⟩ : ∃ n, n = p[i] := ⟨_, rfl⟩
      have hnp : NodeOk w n := by rw [hn]; exact hN _ (List.getElem_mem _)
      have hdrop : p.drop i = n :: p.drop (i + 1) := by rw [hn]; exact List.drop_eq_getElem_cons hi
      rw [← hn] at hcs
      (conv => whnf)
      refine LoadA.cells hcs rfl ?_
      (conv => whnf)
      refine NewV.mem hm ?_
      intro nb w3 hm3
      (conv => whnf)
      refine StoreA.mem hm3 (i := 0) rfl (Nat.le_refl _) ?_ ?_
      · intro v hv
        simp only [List.mem_cons, List.not_mem_nil, or_false] at hv
        rcases hv with rfl | rfl | rfl | rfl | rfl | rfl <;> rfl
      intro w4 hm4
      replace hm4 : Mem w w4 [(nb, .cells (encN n).toArray 81 (0, 0)), (fb, .cells (fl.map (Value.int .i64)).toArray 3 (0, 0))] := hm4
      (conv => whnf)
      refine LoadA.mem hm4 (i := 0) rfl rfl ?_
      (conv => whnf)
      refine CallV.of (fields_any n _ (hnp.ext hm4.ext)) ?_
      rintro v w5 ⟨⟨bf, rfl, hbf⟩, he5⟩
      have hm5 := hm4.call he5
      have hop := hnp.op
      (conv => whnf)
      cases bf
      · (conv => whnf)
        (repeat' (first
      | (refine Obl.mk ⟨by omega, by omega⟩ ?_; conv => whnf)
      | (refine Obl.mk ⟨by omega, by omega, ⟨by omega, by omega⟩⟩ ?_; conv => whnf)
      | ((with_reducible refine Tst.tt ?_); conv => whnf)
      | ((with_reducible refine Tst.ff ?_); conv => whnf)
      | ((with_reducible refine Tst.dec (fun _ => ?_) (fun _ => ?_)) <;> first | (exfalso; omega) | (conv => whnf))
      | ((with_reducible refine Tst.not ?_))
      | (refine Wit.conv ⟨by omega, by omega⟩ ?_; conv => whnf)
      | ((with_reducible refine IdxV.nat (by omega) ?_); conv => whnf)
      | ((with_reducible refine SameW.mk rfl ?_); conv => whnf)
      | (refine LoadV.mem (i := 0) (by assumption) rfl rfl ?_; conv => whnf)
      | (refine LoadV.mem (i := 1) (by assumption) rfl rfl ?_; conv => whnf)
      | (refine LoadV.mem (i := 2) (by assumption) rfl rfl ?_; conv => whnf)
      | ((with_reducible refine Tst.beqT ?_))
      | ((with_reducible refine Tst.beqF ?_))
      | (refine Tst.yes rfl ?_; conv => whnf)
      | (refine Tst.no rfl ?_; conv => whnf)))
        refine ⟨?_, hm5.ext⟩
        rw [pathE_no]; · rfl
        rintro ⟨_, _, x, hx⟩
        rw [hr, hdrop, runH, stepH_none (fun h => by have := hbf.2 h; cases this)] at hx
        cases hx
      · have hF := hbf.1 rfl
        have hsetc : ∀ x : Int, (fl.map (Value.int .i64)).toArray.setIfInBounds i (.int .i64 x) = ((fl.set i x).map (Value.int .i64)).toArray := fun x => by
          rw [← Array.toList_inj]; simp
        have fin : ∀ (hp' : List Nat) (x : Int) (w6 : World) (cs : Array Value), cs = (fl.map (Value.int .i64)).toArray.setIfInBounds i (.int .i64 x) →
            Mem w w6 [(nb, .cells (encN n).toArray 81 (0, 0)), (fb, .cells cs 3 (0, 0))] →
            stepH hp i n = some hp' → Desc hp' (i + 1) → Chain hp' (fl.set i x) → 0 ≤ x → x ≤ p.length →
            i + 1 ≤ p.length ∧ (fl.set i x).length = p.length ∧ Mem w w6 [(fb, .cells ((fl.set i x).map (Value.int .i64)).toArray 3 (0, 0))] ∧ runH p 0 [] = runH (p.drop (i + 1)) (i + 1) hp' ∧ Desc hp' (i + 1) ∧ Chain hp' (fl.set i x) ∧ (∀ y ∈ fl.set i x, 0 ≤ y ∧ y ≤ p.length) := by
          intro hp' x w6 cs hcs hm6 hs hd' hc' hx0 hx1
          rw [hcs, hsetc] at hm6
          refine ⟨by omega, by simpa using h2, hm6.sub (List.sublist_cons_self _ _), ?_, hd', hc', fun y hy => ?_⟩
          · rw [hr, hdrop, runH, hs]
          · rcases List.mem_or_eq_of_mem_set hy with hy | rfl
            · exact hb y hy
            · exact ⟨hx0, hx1⟩
        have hnotin : ∀ t ∈ hp, t ≠ i := by
          intro t ht
          cases hp with
          | nil => cases ht
          | cons t0 r =>
            simp only [Desc] at hd
            rcases List.mem_cons.1 ht with rfl | ht
            · omega
            · have := hd.2 t ht; omega
        have hilen : i < (fl.map (Value.int .i64)).toArray.size := by simp; omega
        have rej : ∀ w6, Ext w w6 → stepH hp i n = none → Value.int .i64 220 = Value.int .i64 (pathE p) ∧ Ext w w6 := by
          intro w6 he hs
          refine ⟨?_, he⟩
          rw [pathE_no]; · rfl
          rintro ⟨_, _, x, hx⟩
          rw [hr, hdrop, runH, hs] at hx
          cases hx
        have hleaf : n.op = 1 ∨ n.op = 8 → Desc (i :: hp) (i + 1) ∧ Chain (i :: hp) (fl.set i (i : Int)) := by
          intro _
          cases hp with
          | nil =>
            simp only [Desc] at hd
            subst hd
            exact ⟨⟨rfl, fun u hu => by cases hu⟩, by simp only [Chain]; rw [List.getElem?_set_self (by omega)]; rfl⟩
          | cons t r =>
            simp only [Desc] at hd
            refine ⟨⟨rfl, fun u hu => ?_⟩, ?_, hc.set _ hnotin⟩
            · rcases List.mem_cons.1 hu with rfl | hu
              · omega
              · have := hd.2 u hu; omega
            · rw [List.getElem?_set_self (by omega), ← hd.1]; simp
        (conv => whnf)
        (repeat' (first
      | (refine Obl.mk ⟨by omega, by omega⟩ ?_; conv => whnf)
      | (refine Obl.mk ⟨by omega, by omega, ⟨by omega, by omega⟩⟩ ?_; conv => whnf)
      | ((with_reducible refine Tst.tt ?_); conv => whnf)
      | ((with_reducible refine Tst.ff ?_); conv => whnf)
      | ((with_reducible refine Tst.dec (fun _ => ?_) (fun _ => ?_)) <;> first | (exfalso; omega) | (conv => whnf))
      | ((with_reducible refine Tst.not ?_))
      | (refine Wit.conv ⟨by omega, by omega⟩ ?_; conv => whnf)
      | ((with_reducible refine IdxV.nat (by omega) ?_); conv => whnf)
      | ((with_reducible refine SameW.mk rfl ?_); conv => whnf)
      | (refine LoadV.mem (i := 0) (by assumption) rfl rfl ?_; conv => whnf)
      | (refine LoadV.mem (i := 1) (by assumption) rfl rfl ?_; conv => whnf)
      | (refine LoadV.mem (i := 2) (by assumption) rfl rfl ?_; conv => whnf)
      | ((with_reducible refine Tst.beqT ?_))
      | ((with_reducible refine Tst.beqF ?_))
      | (refine Tst.yes rfl ?_; conv => whnf)
      | (refine Tst.no rfl ?_; conv => whnf)))
        · refine ElemV.own1 i rfl (by omega) ?_
          (conv => whnf)
          refine StoreV.mem hm5 (i := 1) rfl hilen rfl ?_
          intro w6 hm6
          (conv => whnf)
          (repeat' (first
      | (refine Obl.mk ⟨by omega, by omega⟩ ?_; conv => whnf)
      | (refine Obl.mk ⟨by omega, by omega, ⟨by omega, by omega⟩⟩ ?_; conv => whnf)
      | ((with_reducible refine Tst.tt ?_); conv => whnf)
      | ((with_reducible refine Tst.ff ?_); conv => whnf)
      | ((with_reducible refine Tst.dec (fun _ => ?_) (fun _ => ?_)) <;> first | (exfalso; omega) | (conv => whnf))
      | ((with_reducible refine Tst.not ?_))
      | (refine Wit.conv ⟨by omega, by omega⟩ ?_; conv => whnf)
      | ((with_reducible refine IdxV.nat (by omega) ?_); conv => whnf)
      | ((with_reducible refine SameW.mk rfl ?_); conv => whnf)
      | (refine LoadV.mem (i := 0) (by assumption) rfl rfl ?_; conv => whnf)
      | (refine LoadV.mem (i := 1) (by assumption) rfl rfl ?_; conv => whnf)
      | (refine LoadV.mem (i := 2) (by assumption) rfl rfl ?_; conv => whnf)
      | ((with_reducible refine Tst.beqT ?_))
      | ((with_reducible refine Tst.beqF ?_))
      | (refine Tst.yes rfl ?_; conv => whnf)
      | (refine Tst.no rfl ?_; conv => whnf)))
          have hl := hleaf (.inl ‹_›)
          exact ⟨(i + 1, i :: hp, fl.set i (i : Int)), ⟨rfl, rfl, rfl, rfl, rfl, trivial⟩, fin _ _ _ _ rfl hm6 (stepH_leaf hF (.inl ‹_›)) hl.1 hl.2 (by omega) (by omega), by dsimp only; omega⟩
        · refine ElemV.own1 i rfl (by omega) ?_
          (conv => whnf)
          refine StoreV.mem hm5 (i := 1) rfl hilen rfl ?_
          intro w6 hm6
          (conv => whnf)
          (repeat' (first
      | (refine Obl.mk ⟨by omega, by omega⟩ ?_; conv => whnf)
      | (refine Obl.mk ⟨by omega, by omega, ⟨by omega, by omega⟩⟩ ?_; conv => whnf)
      | ((with_reducible refine Tst.tt ?_); conv => whnf)
      | ((with_reducible refine Tst.ff ?_); conv => whnf)
      | ((with_reducible refine Tst.dec (fun _ => ?_) (fun _ => ?_)) <;> first | (exfalso; omega) | (conv => whnf))
      | ((with_reducible refine Tst.not ?_))
      | (refine Wit.conv ⟨by omega, by omega⟩ ?_; conv => whnf)
      | ((with_reducible refine IdxV.nat (by omega) ?_); conv => whnf)
      | ((with_reducible refine SameW.mk rfl ?_); conv => whnf)
      | (refine LoadV.mem (i := 0) (by assumption) rfl rfl ?_; conv => whnf)
      | (refine LoadV.mem (i := 1) (by assumption) rfl rfl ?_; conv => whnf)
      | (refine LoadV.mem (i := 2) (by assumption) rfl rfl ?_; conv => whnf)
      | ((with_reducible refine Tst.beqT ?_))
      | ((with_reducible refine Tst.beqF ?_))
      | (refine Tst.yes rfl ?_; conv => whnf)
      | (refine Tst.no rfl ?_; conv => whnf)))
          have hl := hleaf (.inr ‹_›)
          exact ⟨(i + 1, i :: hp, fl.set i (i : Int)), ⟨rfl, rfl, rfl, rfl, rfl, trivial⟩, fin _ _ _ _ rfl hm6 (stepH_leaf hF (.inr ‹_›)) hl.1 hl.2 (by omega) (by omega), by dsimp only; omega⟩
        · have hm5d := hm5.drew
          cases hp with
          | nil =>
            simp only [Desc] at hd
            refine DrawV.quiet (by kernel_rfl) (by kernel_rfl) ?_; conv => whnf
            (repeat' (first
      | (refine Obl.mk ⟨by omega, by omega⟩ ?_; conv => whnf)
      | (refine Obl.mk ⟨by omega, by omega, ⟨by omega, by omega⟩⟩ ?_; conv => whnf)
      | ((with_reducible refine Tst.tt ?_); conv => whnf)
      | ((with_reducible refine Tst.ff ?_); conv => whnf)
      | ((with_reducible refine Tst.dec (fun _ => ?_) (fun _ => ?_)) <;> first | (exfalso; omega) | (conv => whnf))
      | ((with_reducible refine Tst.not ?_))
      | (refine Wit.conv ⟨by omega, by omega⟩ ?_; conv => whnf)
      | ((with_reducible refine IdxV.nat (by omega) ?_); conv => whnf)
      | ((with_reducible refine SameW.mk rfl ?_); conv => whnf)
      | (refine LoadV.mem (i := 0) (by assumption) rfl rfl ?_; conv => whnf)
      | (refine LoadV.mem (i := 1) (by assumption) rfl rfl ?_; conv => whnf)
      | (refine LoadV.mem (i := 2) (by assumption) rfl rfl ?_; conv => whnf)
      | ((with_reducible refine Tst.beqT ?_))
      | ((with_reducible refine Tst.beqF ?_))
      | (refine Tst.yes rfl ?_; conv => whnf)
      | (refine Tst.no rfl ?_; conv => whnf)))
            exact rej _ hm5d.ext (by rw [stepH_bin hF (.inl ‹_›)])
          | cons t r =>
            simp only [Desc] at hd
            cases r with
            | nil =>
              simp only [Chain] at hc
              have hz : fl[i - 1]'(by omega) = 0 := by
                rw [show t = i - 1 from by omega, List.getElem?_eq_getElem (by omega)] at hc; exact Option.some.inj hc
              refine DrawV.quiet (by kernel_rfl) (by kernel_rfl) ?_; conv => whnf
              (repeat' (first
      | (refine Obl.mk ⟨by omega, by omega⟩ ?_; conv => whnf)
      | (refine Obl.mk ⟨by omega, by omega, ⟨by omega, by omega⟩⟩ ?_; conv => whnf)
      | ((with_reducible refine Tst.tt ?_); conv => whnf)
      | ((with_reducible refine Tst.ff ?_); conv => whnf)
      | ((with_reducible refine Tst.dec (fun _ => ?_) (fun _ => ?_)) <;> first | (exfalso; omega) | (conv => whnf))
      | ((with_reducible refine Tst.not ?_))
      | (refine Wit.conv ⟨by omega, by omega⟩ ?_; conv => whnf)
      | ((with_reducible refine IdxV.nat (by omega) ?_); conv => whnf)
      | ((with_reducible refine SameW.mk rfl ?_); conv => whnf)
      | (refine LoadV.mem (i := 0) (by assumption) rfl rfl ?_; conv => whnf)
      | (refine LoadV.mem (i := 1) (by assumption) rfl rfl ?_; conv => whnf)
      | (refine LoadV.mem (i := 2) (by assumption) rfl rfl ?_; conv => whnf)
      | ((with_reducible refine Tst.beqT ?_))
      | ((with_reducible refine Tst.beqF ?_))
      | (refine Tst.yes rfl ?_; conv => whnf)
      | (refine Tst.no rfl ?_; conv => whnf)))
              · exact rej _ hm5d.ext (by rw [stepH_bin hF (.inl ‹_›)])
              · refine ElemV.own1 (i - 1) (by omega) (by omega) ?_
                (conv => whnf)
                (repeat' (first
      | (refine Obl.mk ⟨by omega, by omega⟩ ?_; conv => whnf)
      | (refine Obl.mk ⟨by omega, by omega, ⟨by omega, by omega⟩⟩ ?_; conv => whnf)
      | ((with_reducible refine Tst.tt ?_); conv => whnf)
      | ((with_reducible refine Tst.ff ?_); conv => whnf)
      | ((with_reducible refine Tst.dec (fun _ => ?_) (fun _ => ?_)) <;> first | (exfalso; omega) | (conv => whnf))
      | ((with_reducible refine Tst.not ?_))
      | (refine Wit.conv ⟨by omega, by omega⟩ ?_; conv => whnf)
      | ((with_reducible refine IdxV.nat (by omega) ?_); conv => whnf)
      | ((with_reducible refine SameW.mk rfl ?_); conv => whnf)
      | (refine LoadV.mem (i := 0) (by assumption) rfl rfl ?_; conv => whnf)
      | (refine LoadV.mem (i := 1) (by assumption) rfl rfl ?_; conv => whnf)
      | (refine LoadV.mem (i := 2) (by assumption) rfl rfl ?_; conv => whnf)
      | ((with_reducible refine Tst.beqT ?_))
      | ((with_reducible refine Tst.beqF ?_))
      | (refine Tst.yes rfl ?_; conv => whnf)
      | (refine Tst.no rfl ?_; conv => whnf)))
                refine LoadV.mem hm5d (i := 1) rfl (hcell (i - 1) (by omega)) ?_
                rw [hz]
                (conv => whnf)
                (repeat' (first
      | (refine Obl.mk ⟨by omega, by omega⟩ ?_; conv => whnf)
      | (refine Obl.mk ⟨by omega, by omega, ⟨by omega, by omega⟩⟩ ?_; conv => whnf)
      | ((with_reducible refine Tst.tt ?_); conv => whnf)
      | ((with_reducible refine Tst.ff ?_); conv => whnf)
      | ((with_reducible refine Tst.dec (fun _ => ?_) (fun _ => ?_)) <;> first | (exfalso; omega) | (conv => whnf))
      | ((with_reducible refine Tst.not ?_))
      | (refine Wit.conv ⟨by omega, by omega⟩ ?_; conv => whnf)
      | ((with_reducible refine IdxV.nat (by omega) ?_); conv => whnf)
      | ((with_reducible refine SameW.mk rfl ?_); conv => whnf)
      | (refine LoadV.mem (i := 0) (by assumption) rfl rfl ?_; conv => whnf)
      | (refine LoadV.mem (i := 1) (by assumption) rfl rfl ?_; conv => whnf)
      | (refine LoadV.mem (i := 2) (by assumption) rfl rfl ?_; conv => whnf)
      | ((with_reducible refine Tst.beqT ?_))
      | ((with_reducible refine Tst.beqF ?_))
      | (refine Tst.yes rfl ?_; conv => whnf)
      | (refine Tst.no rfl ?_; conv => whnf)))
                exact rej _ hm5d.ext (by rw [stepH_bin hF (.inl ‹_›)])
            | cons u r =>
              simp only [Chain] at hc
              have hz : fl[i - 1]'(by omega) = (u : Int) + 1 := by
                have h := hc.1
                rw [show t = i - 1 from by omega, List.getElem?_eq_getElem (by omega)] at h; exact Option.some.inj h
              have hu := hd.2 u (by simp)
              refine DrawV.quiet (by kernel_rfl) (by kernel_rfl) ?_; conv => whnf
              (repeat' (first
      | (refine Obl.mk ⟨by omega, by omega⟩ ?_; conv => whnf)
      | (refine Obl.mk ⟨by omega, by omega, ⟨by omega, by omega⟩⟩ ?_; conv => whnf)
      | ((with_reducible refine Tst.tt ?_); conv => whnf)
      | ((with_reducible refine Tst.ff ?_); conv => whnf)
      | ((with_reducible refine Tst.dec (fun _ => ?_) (fun _ => ?_)) <;> first | (exfalso; omega) | (conv => whnf))
      | ((with_reducible refine Tst.not ?_))
      | (refine Wit.conv ⟨by omega, by omega⟩ ?_; conv => whnf)
      | ((with_reducible refine IdxV.nat (by omega) ?_); conv => whnf)
      | ((with_reducible refine SameW.mk rfl ?_); conv => whnf)
      | (refine LoadV.mem (i := 0) (by assumption) rfl rfl ?_; conv => whnf)
      | (refine LoadV.mem (i := 1) (by assumption) rfl rfl ?_; conv => whnf)
      | (refine LoadV.mem (i := 2) (by assumption) rfl rfl ?_; conv => whnf)
      | ((with_reducible refine Tst.beqT ?_))
      | ((with_reducible refine Tst.beqF ?_))
      | (refine Tst.yes rfl ?_; conv => whnf)
      | (refine Tst.no rfl ?_; conv => whnf)))
              · refine rej _ hm5d.ext ?_
                rw [stepH_bin hF (.inl ‹_›)]; simp only; rw [if_neg (by omega)]
              · refine ElemV.own1 (i - 1) (by omega) (by omega) ?_
                (conv => whnf)
                (repeat' (first
      | (refine Obl.mk ⟨by omega, by omega⟩ ?_; conv => whnf)
      | (refine Obl.mk ⟨by omega, by omega, ⟨by omega, by omega⟩⟩ ?_; conv => whnf)
      | ((with_reducible refine Tst.tt ?_); conv => whnf)
      | ((with_reducible refine Tst.ff ?_); conv => whnf)
      | ((with_reducible refine Tst.dec (fun _ => ?_) (fun _ => ?_)) <;> first | (exfalso; omega) | (conv => whnf))
      | ((with_reducible refine Tst.not ?_))
      | (refine Wit.conv ⟨by omega, by omega⟩ ?_; conv => whnf)
      | ((with_reducible refine IdxV.nat (by omega) ?_); conv => whnf)
      | ((with_reducible refine SameW.mk rfl ?_); conv => whnf)
      | (refine LoadV.mem (i := 0) (by assumption) rfl rfl ?_; conv => whnf)
      | (refine LoadV.mem (i := 1) (by assumption) rfl rfl ?_; conv => whnf)
      | (refine LoadV.mem (i := 2) (by assumption) rfl rfl ?_; conv => whnf)
      | ((with_reducible refine Tst.beqT ?_))
      | ((with_reducible refine Tst.beqF ?_))
      | (refine Tst.yes rfl ?_; conv => whnf)
      | (refine Tst.no rfl ?_; conv => whnf)))
                refine LoadV.mem hm5d (i := 1) rfl (hcell (i - 1) (by omega)) ?_
                rw [hz]
                (conv => whnf)
                (repeat' (first
      | (refine Obl.mk ⟨by omega, by omega⟩ ?_; conv => whnf)
      | (refine Obl.mk ⟨by omega, by omega, ⟨by omega, by omega⟩⟩ ?_; conv => whnf)
      | ((with_reducible refine Tst.tt ?_); conv => whnf)
      | ((with_reducible refine Tst.ff ?_); conv => whnf)
      | ((with_reducible refine Tst.dec (fun _ => ?_) (fun _ => ?_)) <;> first | (exfalso; omega) | (conv => whnf))
      | ((with_reducible refine Tst.not ?_))
      | (refine Wit.conv ⟨by omega, by omega⟩ ?_; conv => whnf)
      | ((with_reducible refine IdxV.nat (by omega) ?_); conv => whnf)
      | ((with_reducible refine SameW.mk rfl ?_); conv => whnf)
      | (refine LoadV.mem (i := 0) (by assumption) rfl rfl ?_; conv => whnf)
      | (refine LoadV.mem (i := 1) (by assumption) rfl rfl ?_; conv => whnf)
      | (refine LoadV.mem (i := 2) (by assumption) rfl rfl ?_; conv => whnf)
      | ((with_reducible refine Tst.beqT ?_))
      | ((with_reducible refine Tst.beqF ?_))
      | (refine Tst.yes rfl ?_; conv => whnf)
      | (refine Tst.no rfl ?_; conv => whnf)))
                refine ElemV.own1 (i - 1) (by omega) (by omega) ?_
                (conv => whnf)
                (repeat' (first
      | (refine Obl.mk ⟨by omega, by omega⟩ ?_; conv => whnf)
      | (refine Obl.mk ⟨by omega, by omega, ⟨by omega, by omega⟩⟩ ?_; conv => whnf)
      | ((with_reducible refine Tst.tt ?_); conv => whnf)
      | ((with_reducible refine Tst.ff ?_); conv => whnf)
      | ((with_reducible refine Tst.dec (fun _ => ?_) (fun _ => ?_)) <;> first | (exfalso; omega) | (conv => whnf))
      | ((with_reducible refine Tst.not ?_))
      | (refine Wit.conv ⟨by omega, by omega⟩ ?_; conv => whnf)
      | ((with_reducible refine IdxV.nat (by omega) ?_); conv => whnf)
      | ((with_reducible refine SameW.mk rfl ?_); conv => whnf)
      | (refine LoadV.mem (i := 0) (by assumption) rfl rfl ?_; conv => whnf)
      | (refine LoadV.mem (i := 1) (by assumption) rfl rfl ?_; conv => whnf)
      | (refine LoadV.mem (i := 2) (by assumption) rfl rfl ?_; conv => whnf)
      | ((with_reducible refine Tst.beqT ?_))
      | ((with_reducible refine Tst.beqF ?_))
      | (refine Tst.yes rfl ?_; conv => whnf)
      | (refine Tst.no rfl ?_; conv => whnf)))
                refine LoadV.mem hm5d (i := 1) rfl (hcell (i - 1) (by omega)) ?_
                rw [hz]
                (conv => whnf)
                (repeat' (first
      | (refine Obl.mk ⟨by omega, by omega⟩ ?_; conv => whnf)
      | (refine Obl.mk ⟨by omega, by omega, ⟨by omega, by omega⟩⟩ ?_; conv => whnf)
      | ((with_reducible refine Tst.tt ?_); conv => whnf)
      | ((with_reducible refine Tst.ff ?_); conv => whnf)
      | ((with_reducible refine Tst.dec (fun _ => ?_) (fun _ => ?_)) <;> first | (exfalso; omega) | (conv => whnf))
      | ((with_reducible refine Tst.not ?_))
      | (refine Wit.conv ⟨by omega, by omega⟩ ?_; conv => whnf)
      | ((with_reducible refine IdxV.nat (by omega) ?_); conv => whnf)
      | ((with_reducible refine SameW.mk rfl ?_); conv => whnf)
      | (refine LoadV.mem (i := 0) (by assumption) rfl rfl ?_; conv => whnf)
      | (refine LoadV.mem (i := 1) (by assumption) rfl rfl ?_; conv => whnf)
      | (refine LoadV.mem (i := 2) (by assumption) rfl rfl ?_; conv => whnf)
      | ((with_reducible refine Tst.beqT ?_))
      | ((with_reducible refine Tst.beqF ?_))
      | (refine Tst.yes rfl ?_; conv => whnf)
      | (refine Tst.no rfl ?_; conv => whnf)))
                · refine rej _ hm5d.ext ?_
                  rw [stepH_bin hF (.inl ‹_›)]; simp only; rw [if_neg (by omega)]
                · refine ElemV.own1 u (by omega) (by omega) ?_
                  (conv => whnf)
                  refine LoadV.mem hm5d (i := 1) rfl (hcell u (by omega)) ?_
                  (conv => whnf)
                  refine ElemV.own1 i rfl (by omega) ?_
                  (conv => whnf)
                  refine StoreV.mem hm5d (i := 1) rfl hilen rfl ?_
                  intro w6 hm6
                  (conv => whnf)
                  (repeat' (first
      | (refine Obl.mk ⟨by omega, by omega⟩ ?_; conv => whnf)
      | (refine Obl.mk ⟨by omega, by omega, ⟨by omega, by omega⟩⟩ ?_; conv => whnf)
      | ((with_reducible refine Tst.tt ?_); conv => whnf)
      | ((with_reducible refine Tst.ff ?_); conv => whnf)
      | ((with_reducible refine Tst.dec (fun _ => ?_) (fun _ => ?_)) <;> first | (exfalso; omega) | (conv => whnf))
      | ((with_reducible refine Tst.not ?_))
      | (refine Wit.conv ⟨by omega, by omega⟩ ?_; conv => whnf)
      | ((with_reducible refine IdxV.nat (by omega) ?_); conv => whnf)
      | ((with_reducible refine SameW.mk rfl ?_); conv => whnf)
      | (refine LoadV.mem (i := 0) (by assumption) rfl rfl ?_; conv => whnf)
      | (refine LoadV.mem (i := 1) (by assumption) rfl rfl ?_; conv => whnf)
      | (refine LoadV.mem (i := 2) (by assumption) rfl rfl ?_; conv => whnf)
      | ((with_reducible refine Tst.beqT ?_))
      | ((with_reducible refine Tst.beqF ?_))
      | (refine Tst.yes rfl ?_; conv => whnf)
      | (refine Tst.no rfl ?_; conv => whnf)))
                  have hbu := hb _ (List.getElem_mem (l := fl) (n := u) (by omega))
                  exact ⟨(i + 1, i :: r, fl.set i fl[u]), ⟨rfl, rfl, rfl, rfl, rfl, trivial⟩, fin _ _ _ _ rfl hm6 (by rw [stepH_bin hF (.inl ‹_›)]; simp only; rw [if_pos (by omega)])
                    ⟨rfl, fun y hy => by have := hd.2 y (by simp [hy]); omega⟩ (chainTop hc.2 (by omega) (by omega) (fun y hy => hnotin y (by simp [hy]))) hbu.1 hbu.2, by dsimp only; omega⟩
        · have hm5d := hm5.drew
          cases hp with
          | nil =>
            simp only [Desc] at hd
            refine DrawV.quiet (by kernel_rfl) (by kernel_rfl) ?_; conv => whnf
            (repeat' (first
      | (refine Obl.mk ⟨by omega, by omega⟩ ?_; conv => whnf)
      | (refine Obl.mk ⟨by omega, by omega, ⟨by omega, by omega⟩⟩ ?_; conv => whnf)
      | ((with_reducible refine Tst.tt ?_); conv => whnf)
      | ((with_reducible refine Tst.ff ?_); conv => whnf)
      | ((with_reducible refine Tst.dec (fun _ => ?_) (fun _ => ?_)) <;> first | (exfalso; omega) | (conv => whnf))
      | ((with_reducible refine Tst.not ?_))
      | (refine Wit.conv ⟨by omega, by omega⟩ ?_; conv => whnf)
      | ((with_reducible refine IdxV.nat (by omega) ?_); conv => whnf)
      | ((with_reducible refine SameW.mk rfl ?_); conv => whnf)
      | (refine LoadV.mem (i := 0) (by assumption) rfl rfl ?_; conv => whnf)
      | (refine LoadV.mem (i := 1) (by assumption) rfl rfl ?_; conv => whnf)
      | (refine LoadV.mem (i := 2) (by assumption) rfl rfl ?_; conv => whnf)
      | ((with_reducible refine Tst.beqT ?_))
      | ((with_reducible refine Tst.beqF ?_))
      | (refine Tst.yes rfl ?_; conv => whnf)
      | (refine Tst.no rfl ?_; conv => whnf)))
            exact rej _ hm5d.ext (by rw [stepH_bin hF (.inr ‹_›)])
          | cons t r =>
            simp only [Desc] at hd
            cases r with
            | nil =>
              simp only [Chain] at hc
              have hz : fl[i - 1]'(by omega) = 0 := by
                rw [show t = i - 1 from by omega, List.getElem?_eq_getElem (by omega)] at hc; exact Option.some.inj hc
              refine DrawV.quiet (by kernel_rfl) (by kernel_rfl) ?_; conv => whnf
              (repeat' (first
      | (refine Obl.mk ⟨by omega, by omega⟩ ?_; conv => whnf)
      | (refine Obl.mk ⟨by omega, by omega, ⟨by omega, by omega⟩⟩ ?_; conv => whnf)
      | ((with_reducible refine Tst.tt ?_); conv => whnf)
      | ((with_reducible refine Tst.ff ?_); conv => whnf)
      | ((with_reducible refine Tst.dec (fun _ => ?_) (fun _ => ?_)) <;> first | (exfalso; omega) | (conv => whnf))
      | ((with_reducible refine Tst.not ?_))
      | (refine Wit.conv ⟨by omega, by omega⟩ ?_; conv => whnf)
      | ((with_reducible refine IdxV.nat (by omega) ?_); conv => whnf)
      | ((with_reducible refine SameW.mk rfl ?_); conv => whnf)
      | (refine LoadV.mem (i := 0) (by assumption) rfl rfl ?_; conv => whnf)
      | (refine LoadV.mem (i := 1) (by assumption) rfl rfl ?_; conv => whnf)
      | (refine LoadV.mem (i := 2) (by assumption) rfl rfl ?_; conv => whnf)
      | ((with_reducible refine Tst.beqT ?_))
      | ((with_reducible refine Tst.beqF ?_))
      | (refine Tst.yes rfl ?_; conv => whnf)
      | (refine Tst.no rfl ?_; conv => whnf)))
              · exact rej _ hm5d.ext (by rw [stepH_bin hF (.inr ‹_›)])
              · refine ElemV.own1 (i - 1) (by omega) (by omega) ?_
                (conv => whnf)
                (repeat' (first
      | (refine Obl.mk ⟨by omega, by omega⟩ ?_; conv => whnf)
      | (refine Obl.mk ⟨by omega, by omega, ⟨by omega, by omega⟩⟩ ?_; conv => whnf)
      | ((with_reducible refine Tst.tt ?_); conv => whnf)
      | ((with_reducible refine Tst.ff ?_); conv => whnf)
      | ((with_reducible refine Tst.dec (fun _ => ?_) (fun _ => ?_)) <;> first | (exfalso; omega) | (conv => whnf))
      | ((with_reducible refine Tst.not ?_))
      | (refine Wit.conv ⟨by omega, by omega⟩ ?_; conv => whnf)
      | ((with_reducible refine IdxV.nat (by omega) ?_); conv => whnf)
      | ((with_reducible refine SameW.mk rfl ?_); conv => whnf)
      | (refine LoadV.mem (i := 0) (by assumption) rfl rfl ?_; conv => whnf)
      | (refine LoadV.mem (i := 1) (by assumption) rfl rfl ?_; conv => whnf)
      | (refine LoadV.mem (i := 2) (by assumption) rfl rfl ?_; conv => whnf)
      | ((with_reducible refine Tst.beqT ?_))
      | ((with_reducible refine Tst.beqF ?_))
      | (refine Tst.yes rfl ?_; conv => whnf)
      | (refine Tst.no rfl ?_; conv => whnf)))
                refine LoadV.mem hm5d (i := 1) rfl (hcell (i - 1) (by omega)) ?_
                rw [hz]
                (conv => whnf)
                (repeat' (first
      | (refine Obl.mk ⟨by omega, by omega⟩ ?_; conv => whnf)
      | (refine Obl.mk ⟨by omega, by omega, ⟨by omega, by omega⟩⟩ ?_; conv => whnf)
      | ((with_reducible refine Tst.tt ?_); conv => whnf)
      | ((with_reducible refine Tst.ff ?_); conv => whnf)
      | ((with_reducible refine Tst.dec (fun _ => ?_) (fun _ => ?_)) <;> first | (exfalso; omega) | (conv => whnf))
      | ((with_reducible refine Tst.not ?_))
      | (refine Wit.conv ⟨by omega, by omega⟩ ?_; conv => whnf)
      | ((with_reducible refine IdxV.nat (by omega) ?_); conv => whnf)
      | ((with_reducible refine SameW.mk rfl ?_); conv => whnf)
      | (refine LoadV.mem (i := 0) (by assumption) rfl rfl ?_; conv => whnf)
      | (refine LoadV.mem (i := 1) (by assumption) rfl rfl ?_; conv => whnf)
      | (refine LoadV.mem (i := 2) (by assumption) rfl rfl ?_; conv => whnf)
      | ((with_reducible refine Tst.beqT ?_))
      | ((with_reducible refine Tst.beqF ?_))
      | (refine Tst.yes rfl ?_; conv => whnf)
      | (refine Tst.no rfl ?_; conv => whnf)))
                exact rej _ hm5d.ext (by rw [stepH_bin hF (.inr ‹_›)])
            | cons u r =>
              simp only [Chain] at hc
              have hz : fl[i - 1]'(by omega) = (u : Int) + 1 := by
                have h := hc.1
                rw [show t = i - 1 from by omega, List.getElem?_eq_getElem (by omega)] at h; exact Option.some.inj h
              have hu := hd.2 u (by simp)
              refine DrawV.quiet (by kernel_rfl) (by kernel_rfl) ?_; conv => whnf
              (repeat' (first
      | (refine Obl.mk ⟨by omega, by omega⟩ ?_; conv => whnf)
      | (refine Obl.mk ⟨by omega, by omega, ⟨by omega, by omega⟩⟩ ?_; conv => whnf)
      | ((with_reducible refine Tst.tt ?_); conv => whnf)
      | ((with_reducible refine Tst.ff ?_); conv => whnf)
      | ((with_reducible refine Tst.dec (fun _ => ?_) (fun _ => ?_)) <;> first | (exfalso; omega) | (conv => whnf))
      | ((with_reducible refine Tst.not ?_))
      | (refine Wit.conv ⟨by omega, by omega⟩ ?_; conv => whnf)
      | ((with_reducible refine IdxV.nat (by omega) ?_); conv => whnf)
      | ((with_reducible refine SameW.mk rfl ?_); conv => whnf)
      | (refine LoadV.mem (i := 0) (by assumption) rfl rfl ?_; conv => whnf)
      | (refine LoadV.mem (i := 1) (by assumption) rfl rfl ?_; conv => whnf)
      | (refine LoadV.mem (i := 2) (by assumption) rfl rfl ?_; conv => whnf)
      | ((with_reducible refine Tst.beqT ?_))
      | ((with_reducible refine Tst.beqF ?_))
      | (refine Tst.yes rfl ?_; conv => whnf)
      | (refine Tst.no rfl ?_; conv => whnf)))
              · refine rej _ hm5d.ext ?_
                rw [stepH_bin hF (.inr ‹_›)]; simp only; rw [if_neg (by omega)]
              · refine ElemV.own1 (i - 1) (by omega) (by omega) ?_
                (conv => whnf)
                (repeat' (first
      | (refine Obl.mk ⟨by omega, by omega⟩ ?_; conv => whnf)
      | (refine Obl.mk ⟨by omega, by omega, ⟨by omega, by omega⟩⟩ ?_; conv => whnf)
      | ((with_reducible refine Tst.tt ?_); conv => whnf)
      | ((with_reducible refine Tst.ff ?_); conv => whnf)
      | ((with_reducible refine Tst.dec (fun _ => ?_) (fun _ => ?_)) <;> first | (exfalso; omega) | (conv => whnf))
      | ((with_reducible refine Tst.not ?_))
      | (refine Wit.conv ⟨by omega, by omega⟩ ?_; conv => whnf)
      | ((with_reducible refine IdxV.nat (by omega) ?_); conv => whnf)
      | ((with_reducible refine SameW.mk rfl ?_); conv => whnf)
      | (refine LoadV.mem (i := 0) (by assumption) rfl rfl ?_; conv => whnf)
      | (refine LoadV.mem (i := 1) (by assumption) rfl rfl ?_; conv => whnf)
      | (refine LoadV.mem (i := 2) (by assumption) rfl rfl ?_; conv => whnf)
      | ((with_reducible refine Tst.beqT ?_))
      | ((with_reducible refine Tst.beqF ?_))
      | (refine Tst.yes rfl ?_; conv => whnf)
      | (refine Tst.no rfl ?_; conv => whnf)))
                refine LoadV.mem hm5d (i := 1) rfl (hcell (i - 1) (by omega)) ?_
                rw [hz]
                (conv => whnf)
                (repeat' (first
      | (refine Obl.mk ⟨by omega, by omega⟩ ?_; conv => whnf)
      | (refine Obl.mk ⟨by omega, by omega, ⟨by omega, by omega⟩⟩ ?_; conv => whnf)
      | ((with_reducible refine Tst.tt ?_); conv => whnf)
      | ((with_reducible refine Tst.ff ?_); conv => whnf)
      | ((with_reducible refine Tst.dec (fun _ => ?_) (fun _ => ?_)) <;> first | (exfalso; omega) | (conv => whnf))
      | ((with_reducible refine Tst.not ?_))
      | (refine Wit.conv ⟨by omega, by omega⟩ ?_; conv => whnf)
      | ((with_reducible refine IdxV.nat (by omega) ?_); conv => whnf)
      | ((with_reducible refine SameW.mk rfl ?_); conv => whnf)
      | (refine LoadV.mem (i := 0) (by assumption) rfl rfl ?_; conv => whnf)
      | (refine LoadV.mem (i := 1) (by assumption) rfl rfl ?_; conv => whnf)
      | (refine LoadV.mem (i := 2) (by assumption) rfl rfl ?_; conv => whnf)
      | ((with_reducible refine Tst.beqT ?_))
      | ((with_reducible refine Tst.beqF ?_))
      | (refine Tst.yes rfl ?_; conv => whnf)
      | (refine Tst.no rfl ?_; conv => whnf)))
                refine ElemV.own1 (i - 1) (by omega) (by omega) ?_
                (conv => whnf)
                (repeat' (first
      | (refine Obl.mk ⟨by omega, by omega⟩ ?_; conv => whnf)
      | (refine Obl.mk ⟨by omega, by omega, ⟨by omega, by omega⟩⟩ ?_; conv => whnf)
      | ((with_reducible refine Tst.tt ?_); conv => whnf)
      | ((with_reducible refine Tst.ff ?_); conv => whnf)
      | ((with_reducible refine Tst.dec (fun _ => ?_) (fun _ => ?_)) <;> first | (exfalso; omega) | (conv => whnf))
      | ((with_reducible refine Tst.not ?_))
      | (refine Wit.conv ⟨by omega, by omega⟩ ?_; conv => whnf)
      | ((with_reducible refine IdxV.nat (by omega) ?_); conv => whnf)
      | ((with_reducible refine SameW.mk rfl ?_); conv => whnf)
      | (refine LoadV.mem (i := 0) (by assumption) rfl rfl ?_; conv => whnf)
      | (refine LoadV.mem (i := 1) (by assumption) rfl rfl ?_; conv => whnf)
      | (refine LoadV.mem (i := 2) (by assumption) rfl rfl ?_; conv => whnf)
      | ((with_reducible refine Tst.beqT ?_))
      | ((with_reducible refine Tst.beqF ?_))
      | (refine Tst.yes rfl ?_; conv => whnf)
      | (refine Tst.no rfl ?_; conv => whnf)))
                refine LoadV.mem hm5d (i := 1) rfl (hcell (i - 1) (by omega)) ?_
                rw [hz]
                (conv => whnf)
                (repeat' (first
      | (refine Obl.mk ⟨by omega, by omega⟩ ?_; conv => whnf)
      | (refine Obl.mk ⟨by omega, by omega, ⟨by omega, by omega⟩⟩ ?_; conv => whnf)
      | ((with_reducible refine Tst.tt ?_); conv => whnf)
      | ((with_reducible refine Tst.ff ?_); conv => whnf)
      | ((with_reducible refine Tst.dec (fun _ => ?_) (fun _ => ?_)) <;> first | (exfalso; omega) | (conv => whnf))
      | ((with_reducible refine Tst.not ?_))
      | (refine Wit.conv ⟨by omega, by omega⟩ ?_; conv => whnf)
      | ((with_reducible refine IdxV.nat (by omega) ?_); conv => whnf)
      | ((with_reducible refine SameW.mk rfl ?_); conv => whnf)
      | (refine LoadV.mem (i := 0) (by assumption) rfl rfl ?_; conv => whnf)
      | (refine LoadV.mem (i := 1) (by assumption) rfl rfl ?_; conv => whnf)
      | (refine LoadV.mem (i := 2) (by assumption) rfl rfl ?_; conv => whnf)
      | ((with_reducible refine Tst.beqT ?_))
      | ((with_reducible refine Tst.beqF ?_))
      | (refine Tst.yes rfl ?_; conv => whnf)
      | (refine Tst.no rfl ?_; conv => whnf)))
                · refine rej _ hm5d.ext ?_
                  rw [stepH_bin hF (.inr ‹_›)]; simp only; rw [if_neg (by omega)]
                · refine ElemV.own1 u (by omega) (by omega) ?_
                  (conv => whnf)
                  refine LoadV.mem hm5d (i := 1) rfl (hcell u (by omega)) ?_
                  (conv => whnf)
                  refine ElemV.own1 i rfl (by omega) ?_
                  (conv => whnf)
                  refine StoreV.mem hm5d (i := 1) rfl hilen rfl ?_
                  intro w6 hm6
                  (conv => whnf)
                  (repeat' (first
      | (refine Obl.mk ⟨by omega, by omega⟩ ?_; conv => whnf)
      | (refine Obl.mk ⟨by omega, by omega, ⟨by omega, by omega⟩⟩ ?_; conv => whnf)
      | ((with_reducible refine Tst.tt ?_); conv => whnf)
      | ((with_reducible refine Tst.ff ?_); conv => whnf)
      | ((with_reducible refine Tst.dec (fun _ => ?_) (fun _ => ?_)) <;> first | (exfalso; omega) | (conv => whnf))
      | ((with_reducible refine Tst.not ?_))
      | (refine Wit.conv ⟨by omega, by omega⟩ ?_; conv => whnf)
      | ((with_reducible refine IdxV.nat (by omega) ?_); conv => whnf)
      | ((with_reducible refine SameW.mk rfl ?_); conv => whnf)
      | (refine LoadV.mem (i := 0) (by assumption) rfl rfl ?_; conv => whnf)
      | (refine LoadV.mem (i := 1) (by assumption) rfl rfl ?_; conv => whnf)
      | (refine LoadV.mem (i := 2) (by assumption) rfl rfl ?_; conv => whnf)
      | ((with_reducible refine Tst.beqT ?_))
      | ((with_reducible refine Tst.beqF ?_))
      | (refine Tst.yes rfl ?_; conv => whnf)
      | (refine Tst.no rfl ?_; conv => whnf)))
                  have hbu := hb _ (List.getElem_mem (l := fl) (n := u) (by omega))
                  exact ⟨(i + 1, i :: r, fl.set i fl[u]), ⟨rfl, rfl, rfl, rfl, rfl, trivial⟩, fin _ _ _ _ rfl hm6 (by rw [stepH_bin hF (.inr ‹_›)]; simp only; rw [if_pos (by omega)])
                    ⟨rfl, fun y hy => by have := hd.2 y (by simp [hy]); omega⟩ (chainTop hc.2 (by omega) (by omega) (fun y hy => hnotin y (by simp [hy]))) hbu.1 hbu.2, by dsimp only; omega⟩
        all_goals have hun : ¬ (n.op = 1 ∨ n.op = 8) := by omega
        all_goals have hun2 : ¬ (n.op = 3 ∨ n.op = 4) := by omega
        · refine rej _ hm5.ext ?_
          rw [stepH_un hF hun hun2]
          cases hp with
          | nil => rfl
          | cons t r => simp only [Desc] at hd; omega
        · refine rej _ hm5.ext ?_
          rw [stepH_un hF hun hun2]
          cases hp with
          | nil => rfl
          | cons t r => simp only [Desc] at hd; simp only; rw [if_neg (by omega)]
        · cases hp with
          | nil => simp only [Desc] at hd; omega
          | cons t r =>
            simp only [Desc] at hd
            refine ElemV.own1 t (by omega) (by omega) ?_
            (conv => whnf)
            refine LoadV.mem hm5 (i := 1) rfl (hcell t (by omega)) ?_
            (conv => whnf)
            refine ElemV.own1 i rfl (by omega) ?_
            (conv => whnf)
            refine StoreV.mem hm5 (i := 1) rfl hilen rfl ?_
            intro w6 hm6
            (conv => whnf)
            (repeat' (first
      | (refine Obl.mk ⟨by omega, by omega⟩ ?_; conv => whnf)
      | (refine Obl.mk ⟨by omega, by omega, ⟨by omega, by omega⟩⟩ ?_; conv => whnf)
      | ((with_reducible refine Tst.tt ?_); conv => whnf)
      | ((with_reducible refine Tst.ff ?_); conv => whnf)
      | ((with_reducible refine Tst.dec (fun _ => ?_) (fun _ => ?_)) <;> first | (exfalso; omega) | (conv => whnf))
      | ((with_reducible refine Tst.not ?_))
      | (refine Wit.conv ⟨by omega, by omega⟩ ?_; conv => whnf)
      | ((with_reducible refine IdxV.nat (by omega) ?_); conv => whnf)
      | ((with_reducible refine SameW.mk rfl ?_); conv => whnf)
      | (refine LoadV.mem (i := 0) (by assumption) rfl rfl ?_; conv => whnf)
      | (refine LoadV.mem (i := 1) (by assumption) rfl rfl ?_; conv => whnf)
      | (refine LoadV.mem (i := 2) (by assumption) rfl rfl ?_; conv => whnf)
      | ((with_reducible refine Tst.beqT ?_))
      | ((with_reducible refine Tst.beqF ?_))
      | (refine Tst.yes rfl ?_; conv => whnf)
      | (refine Tst.no rfl ?_; conv => whnf)))
            have hbu := hb _ (List.getElem_mem (l := fl) (n := t) (by omega))
            exact ⟨(i + 1, i :: r, fl.set i fl[t]), ⟨rfl, rfl, rfl, rfl, rfl, trivial⟩, fin _ _ _ _ rfl hm6 (by rw [stepH_un hF hun hun2]; simp only; rw [if_pos (by omega)])
              ⟨rfl, fun y hy => by have := hd.2 y hy; omega⟩ (chainTop hc (by omega) (by omega) hnotin) hbu.1 hbu.2, by dsimp only; omega⟩
    · refine ElemV.own1 (p.length - 1) (by omega) (by omega) ?_
      (conv => whnf)
      refine LoadV.mem hm (i := 0) rfl (hcell _ (by omega)) ?_
      (conv => whnf)
      obtain rfl : i = p.length := by omega
      rw [List.drop_length, runH] at hr
      cases hp with
      | nil => simp only [Desc] at hd; omega
      | cons t r =>
        simp only [Desc] at hd
        obtain rfl : t = p.length - 1 := by omega
        cases r with
        | nil =>
          simp only [Chain] at hc
          have hz : fl[p.length - 1]'(by omega) = 0 := by
            rw [List.getElem?_eq_getElem (by omega)] at hc; exact Option.some.inj hc
          rw [hz]
          (repeat' (first
      | (refine Obl.mk ⟨by omega, by omega⟩ ?_; conv => whnf)
      | (refine Obl.mk ⟨by omega, by omega, ⟨by omega, by omega⟩⟩ ?_; conv => whnf)
      | ((with_reducible refine Tst.tt ?_); conv => whnf)
      | ((with_reducible refine Tst.ff ?_); conv => whnf)
      | ((with_reducible refine Tst.dec (fun _ => ?_) (fun _ => ?_)) <;> first | (exfalso; omega) | (conv => whnf))
      | ((with_reducible refine Tst.not ?_))
      | (refine Wit.conv ⟨by omega, by omega⟩ ?_; conv => whnf)
      | ((with_reducible refine IdxV.nat (by omega) ?_); conv => whnf)
      | ((with_reducible refine SameW.mk rfl ?_); conv => whnf)
      | (refine LoadV.mem (i := 0) (by assumption) rfl rfl ?_; conv => whnf)
      | (refine LoadV.mem (i := 1) (by assumption) rfl rfl ?_; conv => whnf)
      | (refine LoadV.mem (i := 2) (by assumption) rfl rfl ?_; conv => whnf)
      | ((with_reducible refine Tst.beqT ?_))
      | ((with_reducible refine Tst.beqF ?_))
      | (refine Tst.yes rfl ?_; conv => whnf)
      | (refine Tst.no rfl ?_; conv => whnf)))
          exact ⟨by rw [pathE_ok ⟨by omega, by omega, _, hr⟩]; rfl, hm.ext⟩
        | cons u r =>
          simp only [Chain] at hc
          have hz : fl[p.length - 1]'(by omega) = (u : Int) + 1 := by
            have := hc.1
            rw [List.getElem?_eq_getElem (by omega)] at this; exact Option.some.inj this
          rw [hz]
          (repeat' (first
      | (refine Obl.mk ⟨by omega, by omega⟩ ?_; conv => whnf)
      | (refine Obl.mk ⟨by omega, by omega, ⟨by omega, by omega⟩⟩ ?_; conv => whnf)
      | ((with_reducible refine Tst.tt ?_); conv => whnf)
      | ((with_reducible refine Tst.ff ?_); conv => whnf)
      | ((with_reducible refine Tst.dec (fun _ => ?_) (fun _ => ?_)) <;> first | (exfalso; omega) | (conv => whnf))
      | ((with_reducible refine Tst.not ?_))
      | (refine Wit.conv ⟨by omega, by omega⟩ ?_; conv => whnf)
      | ((with_reducible refine IdxV.nat (by omega) ?_); conv => whnf)
      | ((with_reducible refine SameW.mk rfl ?_); conv => whnf)
      | (refine LoadV.mem (i := 0) (by assumption) rfl rfl ?_; conv => whnf)
      | (refine LoadV.mem (i := 1) (by assumption) rfl rfl ?_; conv => whnf)
      | (refine LoadV.mem (i := 2) (by assumption) rfl rfl ?_; conv => whnf)
      | ((with_reducible refine Tst.beqT ?_))
      | ((with_reducible refine Tst.beqF ?_))
      | (refine Tst.yes rfl ?_; conv => whnf)
      | (refine Tst.no rfl ?_; conv => whnf)))
          refine ⟨?_, hm.ext⟩
          rw [pathE_no]; · rfl
          rintro ⟨_, _, x, hx⟩
          rw [hr] at hx; cases hx
end Go.Proofs.YtajgbepghniciaaGreatDoor
