/- path.Text of any path. -/
import Derived.Test.YtajgbepghniciaaGreatDoorTxt2
namespace Go.Proofs.YtajgbepghniciaaGreatDoor
open Go.RowKit V
set_option maxRecDepth 100000

/-- the nodes on the heap have texts; they take all nodes so far -/
def HeapT (p : List PN) : List Nat → Nat → Prop
  | [], i => i = 0
  | t :: r, i => t + 1 = i ∧ ∃ m s, TxtR p t m s ∧ m ≤ i ∧ HeapT p r (i - m)
theorem HeapT.top {p : List PN} {t : Nat} {r : List Nat} {i : Nat} (h : HeapT p (t :: r) i) : t < i := by
  have := h.1; omega
theorem heapT_step {p : List PN} {hp hp' : List Nat} {i : Nat} {n : PN} (hn : p[i]? = some n) (h : HeapT p hp i) (hs : stepH hp i n = some hp') : HeapT p hp' (i + 1) := by
  have nth : ∀ t, t < i → ∃ nt, p[t]? = some nt := fun t ht => by
    have hil : i < p.length := (List.getElem?_eq_some_iff.1 hn).1
    exact ⟨p[t]'(by omega), List.getElem?_eq_getElem (by omega)⟩
  by_cases hf : FieldsP n
  · by_cases h18 : n.op = 1 ∨ n.op = 8
    · rw [stepH_leaf hf h18] at hs
      cases hs
      rcases h18 with h1 | h8
      · exact ⟨rfl, 1, _, TxtR.iri i n hn hf h1, by omega, by simpa using h⟩
      · exact ⟨rfl, 1, _, TxtR.not i n hn hf h8, by omega, by simpa using h⟩
    · by_cases h34 : n.op = 3 ∨ n.op = 4
      · rw [stepH_bin hf h34] at hs
        match hp, h, hs with
        | t :: u :: r, h, hs =>
          simp only at hs
          split at hs
          · rename_i hab
            cases hs
            obtain ⟨e1, m1, s1, h1, hm1, h2⟩ := h
            obtain ⟨e2, m2, s2, h3, hm2, h4⟩ := h2
            obtain ⟨nt, hnt⟩ := nth t (by omega)
            obtain ⟨nu, hnu⟩ := nth u (by omega)
            have hpos : m2 ≤ i - m1 := hm2
            rcases h34 with h3' | h4'
            · exact ⟨rfl, _, _, TxtR.seq i n hn hf h3' u nu m2 s2 hab.1 (by omega) hnu h3 t nt m1 s1 hab.2 (by omega) hnt h1, by omega, by rw [show i + 1 - (m2 + m1 + 1) = i - m1 - m2 from by omega]; exact h4⟩
            · exact ⟨rfl, _, _, TxtR.alt i n hn hf h4' u nu m2 s2 hab.1 (by omega) hnu h3 t nt m1 s1 hab.2 (by omega) hnt h1, by omega, by rw [show i + 1 - (m2 + m1 + 1) = i - m1 - m2 from by omega]; exact h4⟩
          · cases hs
        | [t], _, hs => cases hs
        | [], _, hs => cases hs
      · rw [stepH_un hf h18 h34] at hs
        match hp, h, hs with
        | t :: r, h, hs =>
          simp only at hs
          split at hs
          · rename_i ha
            cases hs
            obtain ⟨e1, m1, s1, h1, hm1, h2⟩ := h
            obtain ⟨nt, hnt⟩ := nth t (by omega)
            have hop : n.op = 2 ∨ n.op = 5 ∨ n.op = 6 ∨ n.op = 7 := by
              rcases hf with h | h | h | h
              · exact absurd (.inl h.1) h18
              · exact absurd (.inr h.1) h18
              · exact h.1
              · exact absurd h.1 h34
            rcases hop with h5 | h5
            · exact ⟨rfl, _, _, TxtR.inv i n hn hf h5 t nt m1 s1 ha (by omega) hnt h1, by omega, by rw [show i + 1 - (m1 + 1) = i - m1 from by omega]; exact h2⟩
            · exact ⟨rfl, _, _, TxtR.rep i n hn hf h5 t nt m1 s1 ha (by omega) hnt h1, by omega, by rw [show i + 1 - (m1 + 1) = i - m1 from by omega]; exact h2⟩
          · cases hs
        | [], _, hs => cases hs
  · rw [stepH_none hf] at hs; cases hs
theorem heapT_run {p : List PN} : ∀ (k i : Nat) (hp hp' : List Nat), i + k = p.length → HeapT p hp i → runH (p.drop i) i hp = some hp' → HeapT p hp' p.length := by
  intro k
  induction k with
  | zero =>
    intro i hp hp' hi h hr
    rw [List.drop_eq_nil_of_le (by omega)] at hr
    cases hr
    rw [← hi]; exact h
  | succ k ih =>
    intro i hp hp' hi h hr
    have hil : i < p.length := by omega
    rw [List.drop_eq_getElem_cons hil] at hr
    simp only [runH] at hr
    split at hr
    · rename_i hp1 hs
      exact ih (i + 1) hp1 hp' (by omega) (heapT_step (List.getElem?_eq_getElem hil) h hs) hr
    · cases hr
/-- a right path's text -/
theorem CheckP.txt {p : List PN} (h : CheckP p) : ∃ m s, TxtR p (p.length - 1) m s ∧ m ≤ 64 := by
  obtain ⟨h1, h2, x, h3⟩ := h
  obtain ⟨e, m, s, ht, hm, _⟩ := heapT_run (p := p) p.length 0 [] [x] (by omega) rfl h3
  have : x = p.length - 1 := by omega
  subst this
  exact ⟨m, s, ht, by omega⟩

theorem pathText_any (p : List PN) (A : Option Addr) (c : Nat) (w : World) (hp : PathAt w A p) :
    Gv Tryz.prog 8 [.slice A p.length c] w fun v w' => (∃ s, v = .tuple #[.string s, .int .i64 (pathE p)] ∧ (CheckP p → ∃ m, TxtR p (p.length - 1) m s) ∧ (¬ CheckP p → s = bs [])) ∧ Ext w w' := by
  have hl := hp.len
  have hck := pathCheck_any p A c w hp.sl hp.ok (by omega)
  refine gv (by kernel_rfl) Tryz.func8 rfl Tryz.ntmps8 rfl ?_; conv => whnf
  refine CallV.of (hck) ?_
  rintro v w1 ⟨rfl, he⟩
  (conv => whnf)
  by_cases hP : CheckP p
  · rw [pathE_ok hP]
    (repeat' (first
      | (refine Obl.mk ⟨by omega, by omega⟩ ?_; conv => whnf)
      | (refine Obl.mk ⟨by omega, by omega, ⟨by omega, by omega⟩⟩ ?_; conv => whnf)
      | ((with_reducible refine Tst.tt ?_); conv => whnf)
      | ((with_reducible refine Tst.ff ?_); conv => whnf)
      | ((with_reducible refine Tst.dec (fun _ => ?_) (fun _ => ?_)) <;> first | (exfalso; omega) | (conv => whnf))
      | ((with_reducible refine Tst.not ?_))
      | (refine Wit.conv ⟨by omega, by omega⟩ ?_; conv => whnf)
      | ((with_reducible refine IdxV.nat (by omega) ?_); conv => whnf)
      | ((with_reducible refine SameW.mk rfl ?_); conv => whnf)
      | (refine LoadV.mem (i := 0) (by assumption) rfl rfl ?_; conv => whnf)
      | (refine LoadV.mem (i := 1) (by assumption) rfl rfl ?_; conv => whnf)
      | (refine LoadV.mem (i := 2) (by assumption) rfl rfl ?_; conv => whnf)
      | ((with_reducible refine Tst.beqT ?_))
      | ((with_reducible refine Tst.beqF ?_))
      | (refine Tst.yes rfl ?_; conv => whnf)
      | (refine Tst.no rfl ?_; conv => whnf)))
    obtain ⟨m, s, ht, hm⟩ := hP.txt
    have hpos := hP.1
    have ht' := text_any (A := A) (c := c) ht w1 (hp.ext he) hm
    rw [show ((p.length - 1 : Nat) : Int) = (p.length : Int) - 1 by omega] at ht'
    refine CallV.of (ht') ?_
    rintro v w2 ⟨rfl, he2⟩
    (conv => whnf)
    exact ⟨⟨s, rfl, fun _ => ⟨m, ht⟩, fun h => absurd hP h⟩, he.trans he2⟩
  · rw [pathE_no hP]
    (repeat' (first
      | (refine Obl.mk ⟨by omega, by omega⟩ ?_; conv => whnf)
      | (refine Obl.mk ⟨by omega, by omega, ⟨by omega, by omega⟩⟩ ?_; conv => whnf)
      | ((with_reducible refine Tst.tt ?_); conv => whnf)
      | ((with_reducible refine Tst.ff ?_); conv => whnf)
      | ((with_reducible refine Tst.dec (fun _ => ?_) (fun _ => ?_)) <;> first | (exfalso; omega) | (conv => whnf))
      | ((with_reducible refine Tst.not ?_))
      | (refine Wit.conv ⟨by omega, by omega⟩ ?_; conv => whnf)
      | ((with_reducible refine IdxV.nat (by omega) ?_); conv => whnf)
      | ((with_reducible refine SameW.mk rfl ?_); conv => whnf)
      | (refine LoadV.mem (i := 0) (by assumption) rfl rfl ?_; conv => whnf)
      | (refine LoadV.mem (i := 1) (by assumption) rfl rfl ?_; conv => whnf)
      | (refine LoadV.mem (i := 2) (by assumption) rfl rfl ?_; conv => whnf)
      | ((with_reducible refine Tst.beqT ?_))
      | ((with_reducible refine Tst.beqF ?_))
      | (refine Tst.yes rfl ?_; conv => whnf)
      | (refine Tst.no rfl ?_; conv => whnf)))
    exact ⟨⟨bs [], rfl, fun h => absurd h hP, fun _ => rfl⟩, he⟩
end Go.Proofs.YtajgbepghniciaaGreatDoor
