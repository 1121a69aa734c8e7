/- The law PathTexts: a path with the same parts is checked and printed alike. -/
import Derived.Test.YtajgbepghniciaaGreatDoorLaw
namespace Go.Proofs.YtajgbepghniciaaGreatDoor
open Go.RowKit V
set_option maxRecDepth 100000

/-- two paths with the same parts -/
structure SameP (p q : List PN) : Prop where
  len : q.length = p.length
  at_ : ∀ k (h : k < p.length) (h' : k < q.length), SameN p[k] q[k]
theorem SameN.refl (n : PN) : SameN n n := ⟨rfl, rfl, rfl, rfl, rfl, rfl⟩
theorem SameN.step {n m : PN} (h : SameN n m) (hp : List Nat) (i : Nat) : stepH hp i m = stepH hp i n := by
  obtain ⟨a1, a2, a3, a4, a5, a6, a7, a8, a9, a10⟩ := n
  obtain ⟨b1, b2, b3, b4, b5, b6, b7, b8, b9, b10⟩ := m
  obtain ⟨h1, h2, h3, h4, h5, h6⟩ := h
  simp only at h1 h2 h3 h4 h5 h6
  subst h1 h2 h3 h4 h5 h6
  rfl
theorem SameN.fields {n m : PN} (h : SameN n m) (hf : FieldsP n) : FieldsP m := by
  obtain ⟨a1, a2, a3, a4, a5, a6, a7, a8, a9, a10⟩ := n
  obtain ⟨b1, b2, b3, b4, b5, b6, b7, b8, b9, b10⟩ := m
  obtain ⟨h1, h2, h3, h4, h5, h6⟩ := h
  simp only at h1 h2 h3 h4 h5 h6
  subst h1 h2 h3 h4 h5 h6
  exact hf
theorem SameN.notT {n m : PN} (h : SameN n m) : notT m = notT n := by
  obtain ⟨a1, a2, a3, a4, a5, a6, a7, a8, a9, a10⟩ := n
  obtain ⟨b1, b2, b3, b4, b5, b6, b7, b8, b9, b10⟩ := m
  obtain ⟨h1, h2, h3, h4, h5, h6⟩ := h
  simp only at h1 h2 h3 h4 h5 h6
  subst h1 h2 h3 h4 h5 h6
  rfl
theorem SameP.run : ∀ (p q : List PN) (i : Nat) (hp : List Nat), q.length = p.length → (∀ k (h : k < p.length) (h' : k < q.length), SameN p[k] q[k]) → runH q i hp = runH p i hp := by
  intro p
  induction p with
  | nil =>
    intro q i hp hl _
    obtain rfl : q = [] := List.length_eq_zero_iff.1 (by simpa using hl)
    rfl
  | cons n p ih =>
    intro q i hp hl hs
    cases q with
    | nil => simp at hl
    | cons m q =>
      have h0 := (hs 0 (by simp) (by simp)).step hp i
      simp only [List.getElem_cons_zero] at h0
      unfold runH
      rw [h0]
      split
      · exact ih q _ _ (by simpa using hl) fun k h h' => by
          have := hs (k + 1) (by simpa using h) (by simpa using h')
          simpa using this
      · rfl
theorem SameP.checkP {p q : List PN} (h : SameP p q) : CheckP q ↔ CheckP p := by
  unfold CheckP
  rw [h.len, SameP.run p q 0 [] h.len h.at_]
theorem SameP.pathE {p q : List PN} (h : SameP p q) : pathE q = pathE p := by
  by_cases hc : CheckP p
  · rw [pathE_ok hc, pathE_ok (h.checkP.2 hc)]
  · rw [pathE_no hc, pathE_no (fun h' => hc (h.checkP.1 h'))]
theorem SameP.get {p q : List PN} (h : SameP p q) {i : Nat} {n : PN} (hi : p[i]? = some n) : ∃ m, q[i]? = some m ∧ SameN n m := by
  obtain ⟨hil, rfl⟩ := List.getElem?_eq_some_iff.1 hi
  have hiq : i < q.length := by have := h.len; omega
  exact ⟨q[i], List.getElem?_eq_getElem hiq, h.at_ i hil hiq⟩
theorem SameP.txt {p q : List PN} (h : SameP p q) {i m : Nat} {s : ByteArray} (ht : TxtR p i m s) : TxtR q i m s := by
  induction ht with
  | iri i n hn hf ho =>
    obtain ⟨n', h1, h2⟩ := h.get hn
    rw [← h2.iri]
    exact TxtR.iri i n' h1 (h2.fields hf) (h2.op.trans ho)
  | not i n hn hf ho =>
    obtain ⟨n', h1, h2⟩ := h.get hn
    rw [← h2.notT]
    exact TxtR.not i n' h1 (h2.fields hf) (h2.op.trans ho)
  | inv i n hn hf ho a na m s ha hai hna hs ih =>
    obtain ⟨n', h1, h2⟩ := h.get hn
    obtain ⟨na', h3, h4⟩ := h.get hna
    rw [← h4.op]
    exact TxtR.inv i n' h1 (h2.fields hf) (h2.op.trans ho) a na' m s (h2.a.trans ha) hai h3 ih
  | rep i n hn hf ho a na m s ha hai hna hs ih =>
    obtain ⟨n', h1, h2⟩ := h.get hn
    obtain ⟨na', h3, h4⟩ := h.get hna
    rw [← h4.op, ← h2.op]
    exact TxtR.rep i n' h1 (h2.fields hf) (by rw [h2.op]; exact ho) a na' m s (h2.a.trans ha) hai h3 ih
  | seq i n hn hf ho a na m s ha hai hna hs b nb k t hb hbi hnb ht ih1 ih2 =>
    obtain ⟨n', h1, h2⟩ := h.get hn
    obtain ⟨na', h3, h4⟩ := h.get hna
    obtain ⟨nb', h5, h6⟩ := h.get hnb
    rw [← h4.op, ← h6.op]
    exact TxtR.seq i n' h1 (h2.fields hf) (h2.op.trans ho) a na' m s (h2.a.trans ha) hai h3 ih1 b nb' k t (h2.b.trans hb) hbi h5 ih2
  | alt i n hn hf ho a na m s ha hai hna hs b nb k t hb hbi hnb ht ih1 ih2 =>
    obtain ⟨n', h1, h2⟩ := h.get hn
    obtain ⟨na', h3, h4⟩ := h.get hna
    obtain ⟨nb', h5, h6⟩ := h.get hnb
    rw [← h6.op]
    exact TxtR.alt i n' h1 (h2.fields hf) (h2.op.trans ho) a na' m s (h2.a.trans ha) hai h3 ih1 b nb' k t (h2.b.trans hb) hbi h5 ih2

/-- path.Text, its text given ahead -/
theorem pathText_at (p : List PN) (A : Option Addr) (c : Nat) (w : World) (hp : PathAt w A p) (m : Nat) (s : ByteArray) (hs : CheckP p → TxtR p (p.length - 1) m s ∧ m ≤ 64) (hs2 : ¬ CheckP p → s = bs []) :
    Gv Tryz.prog 8 [.slice A p.length c] w fun v w' => v = .tuple #[.string s, .int .i64 (pathE p)] ∧ Ext w w' := by
  have hl := hp.len
  have hck := pathCheck_any p A c w hp.sl hp.ok (by omega)
  refine gv (by kernel_rfl) Tryz.func8 rfl Tryz.ntmps8 rfl ?_; conv => whnf
  refine CallV.of (hck) ?_
  rintro v w1 ⟨rfl, he⟩
  (conv => whnf)
  by_cases hP : CheckP p
  · rw [pathE_ok hP]
    (repeat' (first
      | (refine Obl.mk ⟨by omega, by omega⟩ ?_; conv => whnf)
      | (refine Obl.mk ⟨by omega, by omega, ⟨by omega, by omega⟩⟩ ?_; conv => whnf)
      | ((with_reducible refine Tst.tt ?_); conv => whnf)
      | ((with_reducible refine Tst.ff ?_); conv => whnf)
      | ((with_reducible refine Tst.dec (fun _ => ?_) (fun _ => ?_)) <;> first | (exfalso; omega) | (conv => whnf))
      | ((with_reducible refine Tst.not ?_))
      | (refine Wit.conv ⟨by omega, by omega⟩ ?_; conv => whnf)
      | ((with_reducible refine IdxV.nat (by omega) ?_); conv => whnf)
      | ((with_reducible refine SameW.mk rfl ?_); conv => whnf)
      | (refine LoadV.mem (i := 0) (by assumption) rfl rfl ?_; conv => whnf)
      | (refine LoadV.mem (i := 1) (by assumption) rfl rfl ?_; conv => whnf)
      | (refine LoadV.mem (i := 2) (by assumption) rfl rfl ?_; conv => whnf)
      | ((with_reducible refine Tst.beqT ?_))
      | ((with_reducible refine Tst.beqF ?_))
      | (refine Tst.yes rfl ?_; conv => whnf)
      | (refine Tst.no rfl ?_; conv => whnf)))
    obtain ⟨ht, hm⟩ := hs hP
    have hpos := hP.1
    have ht' := text_any (A := A) (c := c) ht w1 (hp.ext he) hm
    rw [show ((p.length - 1 : Nat) : Int) = (p.length : Int) - 1 by omega] at ht'
    refine CallV.of (ht') ?_
    rintro v w2 ⟨rfl, he2⟩
    (conv => whnf)
    exact ⟨rfl, he.trans he2⟩
  · rw [pathE_no hP, hs2 hP]
    (repeat' (first
      | (refine Obl.mk ⟨by omega, by omega⟩ ?_; conv => whnf)
      | (refine Obl.mk ⟨by omega, by omega, ⟨by omega, by omega⟩⟩ ?_; conv => whnf)
      | ((with_reducible refine Tst.tt ?_); conv => whnf)
      | ((with_reducible refine Tst.ff ?_); conv => whnf)
      | ((with_reducible refine Tst.dec (fun _ => ?_) (fun _ => ?_)) <;> first | (exfalso; omega) | (conv => whnf))
      | ((with_reducible refine Tst.not ?_))
      | (refine Wit.conv ⟨by omega, by omega⟩ ?_; conv => whnf)
      | ((with_reducible refine IdxV.nat (by omega) ?_); conv => whnf)
      | ((with_reducible refine SameW.mk rfl ?_); conv => whnf)
      | (refine LoadV.mem (i := 0) (by assumption) rfl rfl ?_; conv => whnf)
      | (refine LoadV.mem (i := 1) (by assumption) rfl rfl ?_; conv => whnf)
      | (refine LoadV.mem (i := 2) (by assumption) rfl rfl ?_; conv => whnf)
      | ((with_reducible refine Tst.beqT ?_))
      | ((with_reducible refine Tst.beqF ?_))
      | (refine Tst.yes rfl ?_; conv => whnf)
      | (refine Tst.no rfl ?_; conv => whnf)))
    exact ⟨rfl, he⟩
end Go.Proofs.YtajgbepghniciaaGreatDoor
