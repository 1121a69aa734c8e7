/- Lemmas and contracts of functions on the way to the law's card (part 11 of 17). -/
import Derived.Test.YtajgbepghniciaaGreatDoorJC10
namespace Go.Proofs.YtajgbepghniciaaGreatDoor
open Go.RowKit V
set_option maxRecDepth 100000

theorem lowS_x (x : ByteArray) : seq (lowS x) ⟨#[120]⟩ = privB x := by
  rw [Bool.eq_iff_iff, seq_iff]
  obtain ⟨⟨l⟩⟩ := x
  unfold privB lowS
  simp only [decide_eq_true_eq]
  constructor
  · intro h
    have h : l.map lowB = [120] := by
      have := congrArg (fun b : ByteArray => b.data.toList) h
      simpa using this
    obtain ⟨c, rfl⟩ : ∃ c, l = [c] := List.length_eq_one_iff.1 (by have := congrArg List.length h; simpa using this)
    simp only [List.map_cons, List.map_nil, List.cons.injEq, and_true] at h
    unfold lowB at h
    split at h
    · rename_i hc
      right
      have : c = 88 := by
        have h2 := congrArg UInt8.toNat h
        rw [UInt8.toNat_add] at h2
        rw [← UInt8.toNat_inj]
        have := c.toNat_lt
        simp at h2 ⊢
        omega
      subst this; rfl
    · subst h; left; rfl
  · rintro (h | h)
    · cases h; rfl
    · cases h; rfl
theorem priv_no {x : ByteArray} (h : privB x = true) : varB x = false ∧ extS x = false := by
  have hs : x.size = 1 := by
    unfold privB at h
    simp at h
    rcases h with rfl | rfl <;> rfl
  refine ⟨?_, by rw [extS, h]; simp⟩
  simp [varB, madeB, hs]
section
variable {w0 w w' : World} {O : List Nat} {rb tb : Nat} {rest : List ByteArray} {a0 : ByteArray} {vs es : List ByteArray} {R2 : List (List Value × Value)}
theorem RQ.cell4 (h : RQ w0 w O rb tb rest a0 vs es R2) : ∃ A c, SlAt V.encS 1 w A vs ∧ w.cell? ⟨tb, 4, none⟩ = some (.slice A vs.length c) := by
  obtain ⟨A, c, X, Y, a1, a2, a3, a6, L, h⟩ := h
  obtain ⟨B, d, e⟩ := (h.rows.row 0 _ rfl).slice
  simp only [List.length_map] at e
  subst e
  exact ⟨B, d, RowB.sl (h.rows.row 0 _ rfl) h.mem, by rw [cell_heap (h.mem.get h.tg)]; rfl⟩
theorem RQ.ldA {K : List Value → Prop} (h : RQ w0 w O rb tb rest a0 vs es R2) (hk : ∀ s0 s1 s2 s3 A n c A' n' c' s6, (∀ u ∈ [Value.string s0, .string s1, .string s2, .string s3, .slice A n c, .slice A' n' c', .string s6], u.oneCell' = true) → K [.string s0, .string s1, .string s2, .string s3, .slice A n c, .slice A' n' c', .string s6]) : LoadA w tb 0 7 K := by
  obtain ⟨A, c, X, Y, a1, a2, a3, a6, L, h⟩ := h
  obtain ⟨B, d, e⟩ := (h.rows.row 0 _ rfl).slice
  obtain ⟨B', d', e'⟩ := (h.rows.row 1 _ rfl).slice
  simp only [List.length_map] at e e'
  subst e e'
  refine ⟨_, rfl, fun i hi => ?_, hk a0 a1 a2 a3 B vs.length d B' es.length d' a6 (tag7 ⟨⟨_, _, _, rfl⟩, ⟨_, _, _, rfl⟩⟩ a0 a1 a2 a3 a6)⟩
  rw [cell_heap (h.mem.get h.tg), List.getElem?_toArray, Nat.zero_add]
  rfl
end
theorem lowS_size (s : ByteArray) : (lowS s).size = s.size := by
  show (s.data.toList.map lowB).toArray.size = s.size
  simp
/-- a part that is shown later, and once: what it says is found on the way -/
theorem V.later {A B : Prop} (h : A → B) (p : A) : B := h p
theorem regB_more (x : ByteArray) (xs : List ByteArray) : regB x = (moreB 2 2 false (x :: xs) || moreB 3 3 true (x :: xs)) := by
  rw [moreB_let, regB]
  congr 1
  by_cases h3 : x.size = 3
  · have e : digA x = (digN (gb x 0).toNat && digN (gb x 1).toNat && digN (gb x 2).toNat) := by
      unfold digA
      have d0 := drop_get x 0 (by omega)
      have d1 := drop_get x 1 (by omega)
      have d2 := drop_get x 2 (by omega)
      have d3 : x.data.toList.drop 3 = [] := List.drop_eq_nil_of_le (by simp; omega)
      rw [List.drop_zero] at d0
      rw [d0, d1, d2, d3]
      simp [Bool.and_assoc]
    rw [moreB, e, decide_eq_true h3, decide_eq_true (by omega)]
    simp [Bool.and_assoc]
  · rw [moreB, decide_eq_false h3, decide_eq_false (by omega)]
    simp
theorem refTag_any (s : ByteArray) (hs : s.size ≤ 65536) (w : World) :
    Gv Tryz.prog 219 [.string s] w fun v w' => TagV (partsS s) v ∧ Ext w w' := by
  obtain ⟨p1, p2⟩ := parts_size s
  have p0 : partsS s ≠ [] := fun e => by have := partsS_len s; rw [e] at this; simp at this
  have parts := refParts_any s (by omega)
  obtain ⟨l, hl⟩ : ∃ l, l = partsS s := ⟨_, rfl⟩
  rw [← hl] at p1 p2 p0 parts ⊢
  refine gv (by kernel_rfl) Tryz.func219 rfl Tryz.ntmps219 rfl ?_; conv => whnf
  refine NewV.mem (Mem.nil w) ?_
  intro rt w1 hm1
  (conv => whnf)
  refine NewV.mem (Mem.nil w1) ?_
  intro tb w2 hm2
  (conv => whnf)
  refine CallV.of (parts w2) ?_
  rintro v w3 ⟨A, c, rfl, hR⟩
  (conv => whnf)
  have hlt : tb < w2.heap.size := hm2.lt (List.mem_cons_self ..)
  rcases hR.own.2 with ⟨_, e2⟩ | ⟨g, cap, cur, e1, hge, hg, hnc, _, hsz, htk⟩
  · exact absurd (List.length_eq_zero_iff.1 e2) p0
  cases e1
  rw [Nat.mul_one] at htk hsz
  have hm3 := (hm2.call hR.mem.ext).add hg (Nat.le_trans hm2.ext.size hge) (fun x hx => by obtain rfl := List.mem_singleton.1 hx; show tb < g; omega)
  refine NewV.mem hm3 ?_
  intro rb w4 hm4
  have hrb : rb ≠ g ∧ rb ≠ tb := by
    have := hm4.nodup
    simp at this
    exact ⟨fun e => this.1.1 e, fun e => this.1.2 e⟩
  have h4 : RQ w1 w4 [rb, g, tb] rb tb l ⟨#[]⟩ [] [] [] := by
    refine ⟨_, _, .slice none 0 0, .slice none 0 0, ⟨#[]⟩, ⟨#[]⟩, ⟨#[]⟩, ⟨#[]⟩, _, hm4, List.mem_cons_self .., List.mem_cons_of_mem _ (List.mem_cons_of_mem _ (List.mem_cons_self ..)), RowsP.nils _ _ _ _ (by simp), fun _ => ⟨g, cur, 0, rfl, by simp, fun e => hrb.1 e.symm, fun e => ?_, List.mem_cons_of_mem _ (List.mem_cons_self ..), fun j x hj => ?_⟩, hnc, by simp, by simp, hrb.2, fun k hk => ?_, fun x hx => by have := p1 x hx; omega⟩
    · omega
    · have h9 : (cur.toList.take l.length)[j]? = some (.string x) := by rw [htk, List.getElem?_map, hj]; rfl
      rw [List.getElem?_take] at h9
      split at h9
      · rw [Nat.zero_add]; simpa using h9
      · cases h9
    · rcases List.mem_cons.1 hk with rfl | hk
      · exact ⟨_, List.mem_cons_self ..⟩
      · rcases List.mem_cons.1 hk with rfl | hk
        · exact ⟨_, List.mem_cons_of_mem _ (List.mem_cons_self ..)⟩
        · obtain rfl := List.mem_singleton.1 hk
          exact ⟨_, List.mem_cons_of_mem _ (List.mem_cons_of_mem _ (List.mem_cons_self ..))⟩
  clear hm4 hm3 hR hg
  generalize hO : [rb, g, tb] = O at h4
  (conv => whnf)
  refine h4.ldr ?_
  intro A c hS hc
  obtain ⟨x, xs, hxl⟩ : ∃ x xs, l = x :: xs := by
    cases l with
    | nil => exact absurd rfl p0
    | cons x xs => exact ⟨x, xs, rfl⟩
  (conv => whnf)
  refine ElemV.sl hS rfl 0 rfl (by rw [hxl]; simp) ?_
  intro b off hcl
  (conv => whnf)
  refine LoadV.cell0 hcl ?_
  have hx0 : l[0]'(by rw [hxl]; simp) = x := by subst hxl; rfl
  have hx6 := p1 x (by rw [hxl]; simp)
  rw [hx0]
  (conv => whnf)
  refine CallV.of (refLower_any x (by omega) w4) ?_
  rintro v w5 ⟨rfl, he5⟩
  have h5 := h4.call he5
  clear hcl hS hc h4 he5
  (conv => whnf)
  rw [lowS_x]
  obtain ⟨F, hF⟩ : ∃ F : List ByteArray × List ByteArray × ByteArray → List (Nat × Value), F = fun _ => [(2, .pointer (some ⟨rt, 0, none⟩)), (4, .pointer (some ⟨tb, 0, none⟩)), (5, .pointer (some ⟨rb, 0, none⟩))] := ⟨_, rfl⟩
  obtain ⟨I, hI⟩ : ∃ I : List ByteArray × List ByteArray × ByteArray → World → Prop, I = fun y w6 => RQ w1 w6 O rb tb y.2.1 y.2.2 y.1 [] [] ∧ tagR l = (varsR (y.1.map lowS) y.2.1).bind (fun r => extN r.2.length r.1 r.2) ∧ (∀ v ∈ y.1, 4 ≤ v.size ∧ v.size ≤ 1000000) ∧ y.1.length + y.2.1.length ≤ l.length := ⟨_, rfl⟩
  obtain ⟨mm, hmm⟩ : ∃ mm : List ByteArray × List ByteArray × ByteArray → Nat, mm = fun y => y.2.1.length := ⟨_, rfl⟩
  apply V.later
  case h =>
    intro body
    cases q : privB x
    · (repeat' (first
      | (refine Obl.mk ⟨by omega, by omega⟩ ?_; conv => whnf)
      | (refine Obl.mk ⟨by omega, by omega, ⟨by omega, by omega⟩⟩ ?_; conv => whnf)
      | ((with_reducible refine Tst.tt ?_); conv => whnf)
      | ((with_reducible refine Tst.ff ?_); conv => whnf)
      | ((with_reducible refine Tst.dec (fun _ => ?_) (fun _ => ?_)) <;> first | (exfalso; omega) | (conv => whnf))
      | ((with_reducible refine Tst.not ?_))
      | (refine Wit.conv ⟨by omega, by omega⟩ ?_; conv => whnf)
      | ((with_reducible refine IdxV.nat (by omega) ?_); conv => whnf)
      | ((with_reducible refine SameW.mk rfl ?_); conv => whnf)
      | (refine LoadV.mem (i := 0) (by assumption) rfl rfl ?_; conv => whnf)
      | (refine LoadV.mem (i := 1) (by assumption) rfl rfl ?_; conv => whnf)
      | (refine LoadV.mem (i := 2) (by assumption) rfl rfl ?_; conv => whnf)
      | ((with_reducible refine Tst.beqT ?_))
      | ((with_reducible refine Tst.beqF ?_))
      | (refine Tst.yes rfl ?_; conv => whnf)
      | (refine Tst.no rfl ?_; conv => whnf)))
      refine CallV.of (language_rq h5) ?_
      have hT : tagR l = (langR l).bind restR := by
        rw [tagR, if_neg (by rw [hxl]; show ¬ privB x = true; rw [q]; simp)]
      rintro v w6 (⟨e2, rfl, he6⟩ | ⟨r1, b0, e2, rfl, hb0, h6⟩)
      · rw [e2] at hT
        have hno : ¬ tagP l := fun h => by obtain ⟨l1, h1, _⟩ := h; rw [hT] at h1; cases h1
        (conv => whnf)
        (repeat' (first
      | (refine Obl.mk ⟨by omega, by omega⟩ ?_; conv => whnf)
      | (refine Obl.mk ⟨by omega, by omega, ⟨by omega, by omega⟩⟩ ?_; conv => whnf)
      | ((with_reducible refine Tst.tt ?_); conv => whnf)
      | ((with_reducible refine Tst.ff ?_); conv => whnf)
      | ((with_reducible refine Tst.dec (fun _ => ?_) (fun _ => ?_)) <;> first | (exfalso; omega) | (conv => whnf))
      | ((with_reducible refine Tst.not ?_))
      | (refine Wit.conv ⟨by omega, by omega⟩ ?_; conv => whnf)
      | ((with_reducible refine IdxV.nat (by omega) ?_); conv => whnf)
      | ((with_reducible refine SameW.mk rfl ?_); conv => whnf)
      | (refine LoadV.mem (i := 0) (by assumption) rfl rfl ?_; conv => whnf)
      | (refine LoadV.mem (i := 1) (by assumption) rfl rfl ?_; conv => whnf)
      | (refine LoadV.mem (i := 2) (by assumption) rfl rfl ?_; conv => whnf)
      | ((with_reducible refine Tst.beqT ?_))
      | ((with_reducible refine Tst.beqF ?_))
      | (refine Tst.yes rfl ?_; conv => whnf)
      | (refine Tst.no rfl ?_; conv => whnf)))
        refine StoreA.mem (hm1.call he6) (i := 0) rfl (Nat.le_refl 7) zero7 ?_
        intro w9 hm9
        (conv => whnf)
        refine res_any (R := fun v w' => TagV l v ∧ Ext w w') ?_
        (conv => whnf)
        refine LoadA.mem hm9 (i := 0) rfl rfl ?_
        (conv => whnf)
        exact ⟨⟨_, _, _, _, _, _, _, zero7, by rw [tagE_no hno]; rfl⟩, hm9.ext⟩
      rw [e2] at hT
      have hb : seq b0 ⟨#[]⟩ = false := by rw [seq_empty]; exact decide_eq_false (by omega)
      (conv => whnf)
      (repeat' (first
      | (refine Obl.mk ⟨by omega, by omega⟩ ?_; conv => whnf)
      | (refine Obl.mk ⟨by omega, by omega, ⟨by omega, by omega⟩⟩ ?_; conv => whnf)
      | ((with_reducible refine Tst.tt ?_); conv => whnf)
      | ((with_reducible refine Tst.ff ?_); conv => whnf)
      | ((with_reducible refine Tst.dec (fun _ => ?_) (fun _ => ?_)) <;> first | (exfalso; omega) | (conv => whnf))
      | ((with_reducible refine Tst.not ?_))
      | (refine Wit.conv ⟨by omega, by omega⟩ ?_; conv => whnf)
      | ((with_reducible refine IdxV.nat (by omega) ?_); conv => whnf)
      | ((with_reducible refine SameW.mk rfl ?_); conv => whnf)
      | (refine LoadV.mem (i := 0) (by assumption) rfl rfl ?_; conv => whnf)
      | (refine LoadV.mem (i := 1) (by assumption) rfl rfl ?_; conv => whnf)
      | (refine LoadV.mem (i := 2) (by assumption) rfl rfl ?_; conv => whnf)
      | ((with_reducible refine Tst.beqT ?_))
      | ((with_reducible refine Tst.beqF ?_))
      | (refine Tst.yes rfl ?_; conv => whnf)
      | (refine Tst.no rfl ?_; conv => whnf)))
      refine h6.ld0 ?_
      (conv => whnf)
      rw [hb]
      (repeat' (first
      | (refine Obl.mk ⟨by omega, by omega⟩ ?_; conv => whnf)
      | (refine Obl.mk ⟨by omega, by omega, ⟨by omega, by omega⟩⟩ ?_; conv => whnf)
      | ((with_reducible refine Tst.tt ?_); conv => whnf)
      | ((with_reducible refine Tst.ff ?_); conv => whnf)
      | ((with_reducible refine Tst.dec (fun _ => ?_) (fun _ => ?_)) <;> first | (exfalso; omega) | (conv => whnf))
      | ((with_reducible refine Tst.not ?_))
      | (refine Wit.conv ⟨by omega, by omega⟩ ?_; conv => whnf)
      | ((with_reducible refine IdxV.nat (by omega) ?_); conv => whnf)
      | ((with_reducible refine SameW.mk rfl ?_); conv => whnf)
      | (refine LoadV.mem (i := 0) (by assumption) rfl rfl ?_; conv => whnf)
      | (refine LoadV.mem (i := 1) (by assumption) rfl rfl ?_; conv => whnf)
      | (refine LoadV.mem (i := 2) (by assumption) rfl rfl ?_; conv => whnf)
      | ((with_reducible refine Tst.beqT ?_))
      | ((with_reducible refine Tst.beqF ?_))
      | (refine Tst.yes rfl ?_; conv => whnf)
      | (refine Tst.no rfl ?_; conv => whnf)))
      have hl1 := langR_len e2
      refine CallV.of (more_rq 4 4 false h6) ?_
      rintro v w7 ⟨rfl, h7⟩
      (conv => whnf)
      cases q1 : moreB 4 4 false r1
      case' false =>
        obtain ⟨r2, h8, es2, hl2⟩ : ∃ r2, RQ w1 w7 O rb tb r2 b0 [] [] [] ∧ scriptR r1 = r2 ∧ r2.length ≤ r1.length := by
          refine ⟨r1, h7, ?_, Nat.le_refl _⟩
          cases r1 with
          | nil => rfl
          | cons y ys =>
            rw [moreB_let] at q1
            rw [scriptR, if_neg (by rw [q1]; simp)]
        clear h7 q1 h6
        (repeat' (first
      | (refine Obl.mk ⟨by omega, by omega⟩ ?_; conv => whnf)
      | (refine Obl.mk ⟨by omega, by omega, ⟨by omega, by omega⟩⟩ ?_; conv => whnf)
      | ((with_reducible refine Tst.tt ?_); conv => whnf)
      | ((with_reducible refine Tst.ff ?_); conv => whnf)
      | ((with_reducible refine Tst.dec (fun _ => ?_) (fun _ => ?_)) <;> first | (exfalso; omega) | (conv => whnf))
      | ((with_reducible refine Tst.not ?_))
      | (refine Wit.conv ⟨by omega, by omega⟩ ?_; conv => whnf)
      | ((with_reducible refine IdxV.nat (by omega) ?_); conv => whnf)
      | ((with_reducible refine SameW.mk rfl ?_); conv => whnf)
      | (refine LoadV.mem (i := 0) (by assumption) rfl rfl ?_; conv => whnf)
      | (refine LoadV.mem (i := 1) (by assumption) rfl rfl ?_; conv => whnf)
      | (refine LoadV.mem (i := 2) (by assumption) rfl rfl ?_; conv => whnf)
      | ((with_reducible refine Tst.beqT ?_))
      | ((with_reducible refine Tst.beqF ?_))
      | (refine Tst.yes rfl ?_; conv => whnf)
      | (refine Tst.no rfl ?_; conv => whnf)))
      case' true =>
        obtain ⟨y, ys, rfl⟩ : ∃ y ys, r1 = y :: ys := by
          cases r1 with
          | nil => cases q1
          | cons y ys => exact ⟨y, ys, rfl⟩
        rw [moreB_let] at q1
        (repeat' (first
      | (refine Obl.mk ⟨by omega, by omega⟩ ?_; conv => whnf)
      | (refine Obl.mk ⟨by omega, by omega, ⟨by omega, by omega⟩⟩ ?_; conv => whnf)
      | ((with_reducible refine Tst.tt ?_); conv => whnf)
      | ((with_reducible refine Tst.ff ?_); conv => whnf)
      | ((with_reducible refine Tst.dec (fun _ => ?_) (fun _ => ?_)) <;> first | (exfalso; omega) | (conv => whnf))
      | ((with_reducible refine Tst.not ?_))
      | (refine Wit.conv ⟨by omega, by omega⟩ ?_; conv => whnf)
      | ((with_reducible refine IdxV.nat (by omega) ?_); conv => whnf)
      | ((with_reducible refine SameW.mk rfl ?_); conv => whnf)
      | (refine LoadV.mem (i := 0) (by assumption) rfl rfl ?_; conv => whnf)
      | (refine LoadV.mem (i := 1) (by assumption) rfl rfl ?_; conv => whnf)
      | (refine LoadV.mem (i := 2) (by assumption) rfl rfl ?_; conv => whnf)
      | ((with_reducible refine Tst.beqT ?_))
      | ((with_reducible refine Tst.beqF ?_))
      | (refine Tst.yes rfl ?_; conv => whnf)
      | (refine Tst.no rfl ?_; conv => whnf)))
        refine CallV.of (refNext_rq h7) ?_
        rintro v w8 ⟨rfl, h8⟩
        (conv => whnf)
        refine h8.st (by simp) _ ?_
        intro w7 h9
        obtain ⟨r2, h8, es2, hl2⟩ : ∃ r2, RQ w1 w7 O rb tb r2 b0 [] [] [] ∧ scriptR (y :: ys) = r2 ∧ r2.length ≤ (y :: ys).length := ⟨ys, h9, by rw [scriptR, if_pos q1], by simp⟩
        clear h7 q1 h6 h9
        (conv => whnf)
      all_goals
        refine h8.ld0 ?_
        (conv => whnf)
        rw [hb]
        (repeat' (first
      | (refine Obl.mk ⟨by omega, by omega⟩ ?_; conv => whnf)
      | (refine Obl.mk ⟨by omega, by omega, ⟨by omega, by omega⟩⟩ ?_; conv => whnf)
      | ((with_reducible refine Tst.tt ?_); conv => whnf)
      | ((with_reducible refine Tst.ff ?_); conv => whnf)
      | ((with_reducible refine Tst.dec (fun _ => ?_) (fun _ => ?_)) <;> first | (exfalso; omega) | (conv => whnf))
      | ((with_reducible refine Tst.not ?_))
      | (refine Wit.conv ⟨by omega, by omega⟩ ?_; conv => whnf)
      | ((with_reducible refine IdxV.nat (by omega) ?_); conv => whnf)
      | ((with_reducible refine SameW.mk rfl ?_); conv => whnf)
      | (refine LoadV.mem (i := 0) (by assumption) rfl rfl ?_; conv => whnf)
      | (refine LoadV.mem (i := 1) (by assumption) rfl rfl ?_; conv => whnf)
      | (refine LoadV.mem (i := 2) (by assumption) rfl rfl ?_; conv => whnf)
      | ((with_reducible refine Tst.beqT ?_))
      | ((with_reducible refine Tst.beqF ?_))
      | (refine Tst.yes rfl ?_; conv => whnf)
      | (refine Tst.no rfl ?_; conv => whnf)))
        refine CallV.of (more_rq 2 2 false h8) ?_
        rintro v w9 ⟨rfl, h9⟩
        (conv => whnf)
        cases q2 : moreB 2 2 false r2
        · (repeat' (first
      | (refine Obl.mk ⟨by omega, by omega⟩ ?_; conv => whnf)
      | (refine Obl.mk ⟨by omega, by omega, ⟨by omega, by omega⟩⟩ ?_; conv => whnf)
      | ((with_reducible refine Tst.tt ?_); conv => whnf)
      | ((with_reducible refine Tst.ff ?_); conv => whnf)
      | ((with_reducible refine Tst.dec (fun _ => ?_) (fun _ => ?_)) <;> first | (exfalso; omega) | (conv => whnf))
      | ((with_reducible refine Tst.not ?_))
      | (refine Wit.conv ⟨by omega, by omega⟩ ?_; conv => whnf)
      | ((with_reducible refine IdxV.nat (by omega) ?_); conv => whnf)
      | ((with_reducible refine SameW.mk rfl ?_); conv => whnf)
      | (refine LoadV.mem (i := 0) (by assumption) rfl rfl ?_; conv => whnf)
      | (refine LoadV.mem (i := 1) (by assumption) rfl rfl ?_; conv => whnf)
      | (refine LoadV.mem (i := 2) (by assumption) rfl rfl ?_; conv => whnf)
      | ((with_reducible refine Tst.beqT ?_))
      | ((with_reducible refine Tst.beqF ?_))
      | (refine Tst.yes rfl ?_; conv => whnf)
      | (refine Tst.no rfl ?_; conv => whnf)))
          refine CallV.of (more_rq 3 3 true h9) ?_
          rintro v w10 ⟨rfl, h10⟩
          cases q3 : moreB 3 3 true r2
          · have er : regionR r2 = r2 := by
              cases r2 with
              | nil => rfl
              | cons y ys => rw [regionR, if_neg (by rw [regB_more, q2, q3]; simp)]
            (conv => whnf)
            (repeat' (first
      | (refine Obl.mk ⟨by omega, by omega⟩ ?_; conv => whnf)
      | (refine Obl.mk ⟨by omega, by omega, ⟨by omega, by omega⟩⟩ ?_; conv => whnf)
      | ((with_reducible refine Tst.tt ?_); conv => whnf)
      | ((with_reducible refine Tst.ff ?_); conv => whnf)
      | ((with_reducible refine Tst.dec (fun _ => ?_) (fun _ => ?_)) <;> first | (exfalso; omega) | (conv => whnf))
      | ((with_reducible refine Tst.not ?_))
      | (refine Wit.conv ⟨by omega, by omega⟩ ?_; conv => whnf)
      | ((with_reducible refine IdxV.nat (by omega) ?_); conv => whnf)
      | ((with_reducible refine SameW.mk rfl ?_); conv => whnf)
      | (refine LoadV.mem (i := 0) (by assumption) rfl rfl ?_; conv => whnf)
      | (refine LoadV.mem (i := 1) (by assumption) rfl rfl ?_; conv => whnf)
      | (refine LoadV.mem (i := 2) (by assumption) rfl rfl ?_; conv => whnf)
      | ((with_reducible refine Tst.beqT ?_))
      | ((with_reducible refine Tst.beqF ?_))
      | (refine Tst.yes rfl ?_; conv => whnf)
      | (refine Tst.no rfl ?_; conv => whnf)))
            refine loopV F I mm ([], r2, b0) (by rw [hF]; exact ⟨rfl, rfl, rfl, trivial⟩) (by rw [hI]; exact ⟨h10, by rw [hT]; show restR _ = _; rw [restR, es2, er]; rfl, by simp, by simp only [List.length_nil]; omega⟩) body
          · obtain ⟨y, ys, rfl⟩ : ∃ y ys, r2 = y :: ys := by
              cases r2 with
              | nil => cases q3
              | cons y ys => exact ⟨y, ys, rfl⟩
            have er : regionR (y :: ys) = ys := by rw [regionR, if_pos (by rw [regB_more, q3]; simp)]
            (conv => whnf)
            (repeat' (first
      | (refine Obl.mk ⟨by omega, by omega⟩ ?_; conv => whnf)
      | (refine Obl.mk ⟨by omega, by omega, ⟨by omega, by omega⟩⟩ ?_; conv => whnf)
      | ((with_reducible refine Tst.tt ?_); conv => whnf)
      | ((with_reducible refine Tst.ff ?_); conv => whnf)
      | ((with_reducible refine Tst.dec (fun _ => ?_) (fun _ => ?_)) <;> first | (exfalso; omega) | (conv => whnf))
      | ((with_reducible refine Tst.not ?_))
      | (refine Wit.conv ⟨by omega, by omega⟩ ?_; conv => whnf)
      | ((with_reducible refine IdxV.nat (by omega) ?_); conv => whnf)
      | ((with_reducible refine SameW.mk rfl ?_); conv => whnf)
      | (refine LoadV.mem (i := 0) (by assumption) rfl rfl ?_; conv => whnf)
      | (refine LoadV.mem (i := 1) (by assumption) rfl rfl ?_; conv => whnf)
      | (refine LoadV.mem (i := 2) (by assumption) rfl rfl ?_; conv => whnf)
      | ((with_reducible refine Tst.beqT ?_))
      | ((with_reducible refine Tst.beqF ?_))
      | (refine Tst.yes rfl ?_; conv => whnf)
      | (refine Tst.no rfl ?_; conv => whnf)))
            refine CallV.of (refNext_rq h10) ?_
            rintro v w11 ⟨rfl, h11⟩
            (conv => whnf)
            refine h11.st (by simp) _ ?_
            intro w12 h12
            (conv => whnf)
            refine loopV F I mm ([], ys, b0) (by rw [hF]; exact ⟨rfl, rfl, rfl, trivial⟩) (by rw [hI]; exact ⟨h12, by rw [hT]; show restR _ = _; rw [restR, es2, er]; rfl, by simp, by simp only [List.length_nil, List.length_cons] at *; omega⟩) body
        · obtain ⟨y, ys, rfl⟩ : ∃ y ys, r2 = y :: ys := by
            cases r2 with
            | nil => cases q2
            | cons y ys => exact ⟨y, ys, rfl⟩
          have er : regionR (y :: ys) = ys := by rw [regionR, if_pos (by rw [regB_more, q2]; simp)]
          (conv => whnf)
          (repeat' (first
      | (refine Obl.mk ⟨by omega, by omega⟩ ?_; conv => whnf)
      | (refine Obl.mk ⟨by omega, by omega, ⟨by omega, by omega⟩⟩ ?_; conv => whnf)
      | ((with_reducible refine Tst.tt ?_); conv => whnf)
      | ((with_reducible refine Tst.ff ?_); conv => whnf)
      | ((with_reducible refine Tst.dec (fun _ => ?_) (fun _ => ?_)) <;> first | (exfalso; omega) | (conv => whnf))
      | ((with_reducible refine Tst.not ?_))
      | (refine Wit.conv ⟨by omega, by omega⟩ ?_; conv => whnf)
      | ((with_reducible refine IdxV.nat (by omega) ?_); conv => whnf)
      | ((with_reducible refine SameW.mk rfl ?_); conv => whnf)
      | (refine LoadV.mem (i := 0) (by assumption) rfl rfl ?_; conv => whnf)
      | (refine LoadV.mem (i := 1) (by assumption) rfl rfl ?_; conv => whnf)
      | (refine LoadV.mem (i := 2) (by assumption) rfl rfl ?_; conv => whnf)
      | ((with_reducible refine Tst.beqT ?_))
      | ((with_reducible refine Tst.beqF ?_))
      | (refine Tst.yes rfl ?_; conv => whnf)
      | (refine Tst.no rfl ?_; conv => whnf)))
          refine CallV.of (refNext_rq h9) ?_
          rintro v w11 ⟨rfl, h11⟩
          (conv => whnf)
          refine h11.st (by simp) _ ?_
          intro w12 h12
          (conv => whnf)
          refine loopV F I mm ([], ys, b0) (by rw [hF]; exact ⟨rfl, rfl, rfl, trivial⟩) (by rw [hI]; exact ⟨h12, by rw [hT]; show restR _ = _; rw [restR, es2, er]; rfl, by simp, by simp only [List.length_nil, List.length_cons] at *; omega⟩) body
    · have hT : tagR l = (varsR [] l).bind fun r => extN r.2.length r.1 r.2 := by
        rw [tagR, if_pos (by rw [hxl]; exact q), hxl, varsR, if_neg (by rw [(priv_no q).1]; simp)]
        show _ = extN (xs.length + 1) [] (x :: xs)
        rw [extN, if_neg (by rw [(priv_no q).2]; simp)]
      have hb : seq ⟨#[]⟩ ⟨#[]⟩ = true := by rw [seq_empty]; rfl
      (repeat' (first
      | (refine Obl.mk ⟨by omega, by omega⟩ ?_; conv => whnf)
      | (refine Obl.mk ⟨by omega, by omega, ⟨by omega, by omega⟩⟩ ?_; conv => whnf)
      | ((with_reducible refine Tst.tt ?_); conv => whnf)
      | ((with_reducible refine Tst.ff ?_); conv => whnf)
      | ((with_reducible refine Tst.dec (fun _ => ?_) (fun _ => ?_)) <;> first | (exfalso; omega) | (conv => whnf))
      | ((with_reducible refine Tst.not ?_))
      | (refine Wit.conv ⟨by omega, by omega⟩ ?_; conv => whnf)
      | ((with_reducible refine IdxV.nat (by omega) ?_); conv => whnf)
      | ((with_reducible refine SameW.mk rfl ?_); conv => whnf)
      | (refine LoadV.mem (i := 0) (by assumption) rfl rfl ?_; conv => whnf)
      | (refine LoadV.mem (i := 1) (by assumption) rfl rfl ?_; conv => whnf)
      | (refine LoadV.mem (i := 2) (by assumption) rfl rfl ?_; conv => whnf)
      | ((with_reducible refine Tst.beqT ?_))
      | ((with_reducible refine Tst.beqF ?_))
      | (refine Tst.yes rfl ?_; conv => whnf)
      | (refine Tst.no rfl ?_; conv => whnf)))
      refine h5.ld0 ?_
      (conv => whnf)
      rw [hb]
      (repeat' (first
      | (refine Obl.mk ⟨by omega, by omega⟩ ?_; conv => whnf)
      | (refine Obl.mk ⟨by omega, by omega, ⟨by omega, by omega⟩⟩ ?_; conv => whnf)
      | ((with_reducible refine Tst.tt ?_); conv => whnf)
      | ((with_reducible refine Tst.ff ?_); conv => whnf)
      | ((with_reducible refine Tst.dec (fun _ => ?_) (fun _ => ?_)) <;> first | (exfalso; omega) | (conv => whnf))
      | ((with_reducible refine Tst.not ?_))
      | (refine Wit.conv ⟨by omega, by omega⟩ ?_; conv => whnf)
      | ((with_reducible refine IdxV.nat (by omega) ?_); conv => whnf)
      | ((with_reducible refine SameW.mk rfl ?_); conv => whnf)
      | (refine LoadV.mem (i := 0) (by assumption) rfl rfl ?_; conv => whnf)
      | (refine LoadV.mem (i := 1) (by assumption) rfl rfl ?_; conv => whnf)
      | (refine LoadV.mem (i := 2) (by assumption) rfl rfl ?_; conv => whnf)
      | ((with_reducible refine Tst.beqT ?_))
      | ((with_reducible refine Tst.beqF ?_))
      | (refine Tst.yes rfl ?_; conv => whnf)
      | (refine Tst.no rfl ?_; conv => whnf)))
      refine h5.ld0 ?_
      (conv => whnf)
      rw [hb]
      (repeat' (first
      | (refine Obl.mk ⟨by omega, by omega⟩ ?_; conv => whnf)
      | (refine Obl.mk ⟨by omega, by omega, ⟨by omega, by omega⟩⟩ ?_; conv => whnf)
      | ((with_reducible refine Tst.tt ?_); conv => whnf)
      | ((with_reducible refine Tst.ff ?_); conv => whnf)
      | ((with_reducible refine Tst.dec (fun _ => ?_) (fun _ => ?_)) <;> first | (exfalso; omega) | (conv => whnf))
      | ((with_reducible refine Tst.not ?_))
      | (refine Wit.conv ⟨by omega, by omega⟩ ?_; conv => whnf)
      | ((with_reducible refine IdxV.nat (by omega) ?_); conv => whnf)
      | ((with_reducible refine SameW.mk rfl ?_); conv => whnf)
      | (refine LoadV.mem (i := 0) (by assumption) rfl rfl ?_; conv => whnf)
      | (refine LoadV.mem (i := 1) (by assumption) rfl rfl ?_; conv => whnf)
      | (refine LoadV.mem (i := 2) (by assumption) rfl rfl ?_; conv => whnf)
      | ((with_reducible refine Tst.beqT ?_))
      | ((with_reducible refine Tst.beqF ?_))
      | (refine Tst.yes rfl ?_; conv => whnf)
      | (refine Tst.no rfl ?_; conv => whnf)))
      refine loopV F I mm ([], l, ⟨#[]⟩) (by rw [hF]; exact ⟨rfl, rfl, rfl, trivial⟩) (by rw [hI]; exact ⟨h5, hT, by simp, by simp⟩) body
  case p =>
    subst hF hI hmm
    rintro ⟨vs, r3, b0⟩ w6 ρ' ⟨h6, hT, hv4, hlen⟩
    simp only at h6 hT hv4 hlen
    dsimp only
    obtain ⟨F, hF⟩ : ∃ F : Nat × List ByteArray × List ByteArray → List (Nat × Value), F = fun _ => [(2, .pointer (some ⟨rt, 0, none⟩)), (4, .pointer (some ⟨tb, 0, none⟩)), (5, .pointer (some ⟨rb, 0, none⟩))] := ⟨_, rfl⟩
    obtain ⟨I, hI⟩ : ∃ I : Nat × List ByteArray × List ByteArray → World → Prop, I = fun y w6 => RQ w1 w6 O rb tb y.2.1 b0 vs y.2.2 [] ∧ tagR l = extN y.1 (vs.map lowS ++ y.2.2.map firstL) y.2.1 ∧ y.2.1.length ≤ y.1 ∧ (∀ e ∈ y.2.2, 1 ≤ e.size) ∧ y.2.1.length + y.2.2.length ≤ l.length := ⟨_, rfl⟩
    obtain ⟨mm, hmm⟩ : ∃ mm : Nat × List ByteArray × List ByteArray → Nat, mm = fun y => y.2.1.length := ⟨_, rfl⟩
    apply V.later
    case h =>
      intro body
      (conv => whnf)
      refine h6.ldr ?_
      intro A c hS hc
      (conv => whnf)
      rcases r3 with _ | ⟨y, ys⟩
      · refine Tst.no (decide_eq_false (by simp)) ?_
        (conv => whnf)
        (repeat' (first
      | (refine Obl.mk ⟨by omega, by omega⟩ ?_; conv => whnf)
      | (refine Obl.mk ⟨by omega, by omega, ⟨by omega, by omega⟩⟩ ?_; conv => whnf)
      | ((with_reducible refine Tst.tt ?_); conv => whnf)
      | ((with_reducible refine Tst.ff ?_); conv => whnf)
      | ((with_reducible refine Tst.dec (fun _ => ?_) (fun _ => ?_)) <;> first | (exfalso; omega) | (conv => whnf))
      | ((with_reducible refine Tst.not ?_))
      | (refine Wit.conv ⟨by omega, by omega⟩ ?_; conv => whnf)
      | ((with_reducible refine IdxV.nat (by omega) ?_); conv => whnf)
      | ((with_reducible refine SameW.mk rfl ?_); conv => whnf)
      | (refine LoadV.mem (i := 0) (by assumption) rfl rfl ?_; conv => whnf)
      | (refine LoadV.mem (i := 1) (by assumption) rfl rfl ?_; conv => whnf)
      | (refine LoadV.mem (i := 2) (by assumption) rfl rfl ?_; conv => whnf)
      | ((with_reducible refine Tst.beqT ?_))
      | ((with_reducible refine Tst.beqF ?_))
      | (refine Tst.yes rfl ?_; conv => whnf)
      | (refine Tst.no rfl ?_; conv => whnf)))
        refine loopV F I mm (0, [], []) (by rw [hF]; exact ⟨rfl, rfl, rfl, trivial⟩) (by rw [hI]; exact ⟨h6, by rw [hT]; rfl, Nat.le_refl _, by simp, by simp⟩) body
      · simp only [List.length_cons] at hc hlen ⊢
        refine Tst.yes (decide_eq_true (by omega)) ?_
        (conv => whnf)
        (repeat' (first
      | (refine Obl.mk ⟨by omega, by omega⟩ ?_; conv => whnf)
      | (refine Obl.mk ⟨by omega, by omega, ⟨by omega, by omega⟩⟩ ?_; conv => whnf)
      | ((with_reducible refine Tst.tt ?_); conv => whnf)
      | ((with_reducible refine Tst.ff ?_); conv => whnf)
      | ((with_reducible refine Tst.dec (fun _ => ?_) (fun _ => ?_)) <;> first | (exfalso; omega) | (conv => whnf))
      | ((with_reducible refine Tst.not ?_))
      | (refine Wit.conv ⟨by omega, by omega⟩ ?_; conv => whnf)
      | ((with_reducible refine IdxV.nat (by omega) ?_); conv => whnf)
      | ((with_reducible refine SameW.mk rfl ?_); conv => whnf)
      | (refine LoadV.mem (i := 0) (by assumption) rfl rfl ?_; conv => whnf)
      | (refine LoadV.mem (i := 1) (by assumption) rfl rfl ?_; conv => whnf)
      | (refine LoadV.mem (i := 2) (by assumption) rfl rfl ?_; conv => whnf)
      | ((with_reducible refine Tst.beqT ?_))
      | ((with_reducible refine Tst.beqF ?_))
      | (refine Tst.yes rfl ?_; conv => whnf)
      | (refine Tst.no rfl ?_; conv => whnf)))
        refine h6.ldr ?_
        intro A c hS hc
        (conv => whnf)
        (repeat' (first
      | (refine Obl.mk ⟨by omega, by omega⟩ ?_; conv => whnf)
      | (refine Obl.mk ⟨by omega, by omega, ⟨by omega, by omega⟩⟩ ?_; conv => whnf)
      | ((with_reducible refine Tst.tt ?_); conv => whnf)
      | ((with_reducible refine Tst.ff ?_); conv => whnf)
      | ((with_reducible refine Tst.dec (fun _ => ?_) (fun _ => ?_)) <;> first | (exfalso; omega) | (conv => whnf))
      | ((with_reducible refine Tst.not ?_))
      | (refine Wit.conv ⟨by omega, by omega⟩ ?_; conv => whnf)
      | ((with_reducible refine IdxV.nat (by omega) ?_); conv => whnf)
      | ((with_reducible refine SameW.mk rfl ?_); conv => whnf)
      | (refine LoadV.mem (i := 0) (by assumption) rfl rfl ?_; conv => whnf)
      | (refine LoadV.mem (i := 1) (by assumption) rfl rfl ?_; conv => whnf)
      | (refine LoadV.mem (i := 2) (by assumption) rfl rfl ?_; conv => whnf)
      | ((with_reducible refine Tst.beqT ?_))
      | ((with_reducible refine Tst.beqF ?_))
      | (refine Tst.yes rfl ?_; conv => whnf)
      | (refine Tst.no rfl ?_; conv => whnf)))
        refine ElemV.sl hS rfl 0 rfl (by simp) ?_
        intro b off hcl
        (conv => whnf)
        (repeat' (first
      | (refine Obl.mk ⟨by omega, by omega⟩ ?_; conv => whnf)
      | (refine Obl.mk ⟨by omega, by omega, ⟨by omega, by omega⟩⟩ ?_; conv => whnf)
      | ((with_reducible refine Tst.tt ?_); conv => whnf)
      | ((with_reducible refine Tst.ff ?_); conv => whnf)
      | ((with_reducible refine Tst.dec (fun _ => ?_) (fun _ => ?_)) <;> first | (exfalso; omega) | (conv => whnf))
      | ((with_reducible refine Tst.not ?_))
      | (refine Wit.conv ⟨by omega, by omega⟩ ?_; conv => whnf)
      | ((with_reducible refine IdxV.nat (by omega) ?_); conv => whnf)
      | ((with_reducible refine SameW.mk rfl ?_); conv => whnf)
      | (refine LoadV.mem (i := 0) (by assumption) rfl rfl ?_; conv => whnf)
      | (refine LoadV.mem (i := 1) (by assumption) rfl rfl ?_; conv => whnf)
      | (refine LoadV.mem (i := 2) (by assumption) rfl rfl ?_; conv => whnf)
      | ((with_reducible refine Tst.beqT ?_))
      | ((with_reducible refine Tst.beqF ?_))
      | (refine Tst.yes rfl ?_; conv => whnf)
      | (refine Tst.no rfl ?_; conv => whnf)))
        refine LoadV.cell0 hcl ?_
        (conv => whnf)
        (repeat' (first
      | (refine Obl.mk ⟨by omega, by omega⟩ ?_; conv => whnf)
      | (refine Obl.mk ⟨by omega, by omega, ⟨by omega, by omega⟩⟩ ?_; conv => whnf)
      | ((with_reducible refine Tst.tt ?_); conv => whnf)
      | ((with_reducible refine Tst.ff ?_); conv => whnf)
      | ((with_reducible refine Tst.dec (fun _ => ?_) (fun _ => ?_)) <;> first | (exfalso; omega) | (conv => whnf))
      | ((with_reducible refine Tst.not ?_))
      | (refine Wit.conv ⟨by omega, by omega⟩ ?_; conv => whnf)
      | ((with_reducible refine IdxV.nat (by omega) ?_); conv => whnf)
      | ((with_reducible refine SameW.mk rfl ?_); conv => whnf)
      | (refine LoadV.mem (i := 0) (by assumption) rfl rfl ?_; conv => whnf)
      | (refine LoadV.mem (i := 1) (by assumption) rfl rfl ?_; conv => whnf)
      | (refine LoadV.mem (i := 2) (by assumption) rfl rfl ?_; conv => whnf)
      | ((with_reducible refine Tst.beqT ?_))
      | ((with_reducible refine Tst.beqF ?_))
      | (refine Tst.yes rfl ?_; conv => whnf)
      | (refine Tst.no rfl ?_; conv => whnf)))
        have hy := h6.small y (List.mem_cons_self ..)
        refine CallV.of (refVariant_any y (by omega) w6) ?_
        rintro v w7 ⟨rfl, rfl⟩
        cases q : varB y
        · rw [varsR, if_neg (by rw [q]; simp)] at hT
          (conv => whnf)
          (repeat' (first
      | (refine Obl.mk ⟨by omega, by omega⟩ ?_; conv => whnf)
      | (refine Obl.mk ⟨by omega, by omega, ⟨by omega, by omega⟩⟩ ?_; conv => whnf)
      | ((with_reducible refine Tst.tt ?_); conv => whnf)
      | ((with_reducible refine Tst.ff ?_); conv => whnf)
      | ((with_reducible refine Tst.dec (fun _ => ?_) (fun _ => ?_)) <;> first | (exfalso; omega) | (conv => whnf))
      | ((with_reducible refine Tst.not ?_))
      | (refine Wit.conv ⟨by omega, by omega⟩ ?_; conv => whnf)
      | ((with_reducible refine IdxV.nat (by omega) ?_); conv => whnf)
      | ((with_reducible refine SameW.mk rfl ?_); conv => whnf)
      | (refine LoadV.mem (i := 0) (by assumption) rfl rfl ?_; conv => whnf)
      | (refine LoadV.mem (i := 1) (by assumption) rfl rfl ?_; conv => whnf)
      | (refine LoadV.mem (i := 2) (by assumption) rfl rfl ?_; conv => whnf)
      | ((with_reducible refine Tst.beqT ?_))
      | ((with_reducible refine Tst.beqF ?_))
      | (refine Tst.yes rfl ?_; conv => whnf)
      | (refine Tst.no rfl ?_; conv => whnf)))
          refine loopV F I mm ((y :: ys).length, y :: ys, []) (by rw [hF]; exact ⟨rfl, rfl, rfl, trivial⟩) (by rw [hI]; exact ⟨h6, by rw [hT]; simp, Nat.le_refl _, by simp, by simp; omega⟩) body
        · rw [varsR, if_pos q] at hT
          have hy4 : 4 ≤ y.size := by
            simp [varB, madeB] at q
            omega
          (conv => whnf)
          (repeat' (first
      | (refine Obl.mk ⟨by omega, by omega⟩ ?_; conv => whnf)
      | (refine Obl.mk ⟨by omega, by omega, ⟨by omega, by omega⟩⟩ ?_; conv => whnf)
      | ((with_reducible refine Tst.tt ?_); conv => whnf)
      | ((with_reducible refine Tst.ff ?_); conv => whnf)
      | ((with_reducible refine Tst.dec (fun _ => ?_) (fun _ => ?_)) <;> first | (exfalso; omega) | (conv => whnf))
      | ((with_reducible refine Tst.not ?_))
      | (refine Wit.conv ⟨by omega, by omega⟩ ?_; conv => whnf)
      | ((with_reducible refine IdxV.nat (by omega) ?_); conv => whnf)
      | ((with_reducible refine SameW.mk rfl ?_); conv => whnf)
      | (refine LoadV.mem (i := 0) (by assumption) rfl rfl ?_; conv => whnf)
      | (refine LoadV.mem (i := 1) (by assumption) rfl rfl ?_; conv => whnf)
      | (refine LoadV.mem (i := 2) (by assumption) rfl rfl ?_; conv => whnf)
      | ((with_reducible refine Tst.beqT ?_))
      | ((with_reducible refine Tst.beqF ?_))
      | (refine Tst.yes rfl ?_; conv => whnf)
      | (refine Tst.no rfl ?_; conv => whnf)))
          refine CallV.of (refNext_rq h6) ?_
          rintro v w8 ⟨rfl, h8⟩
          (conv => whnf)
          refine loopV (fun i : Nat => [(2, .pointer (some ⟨rt, 0, none⟩)), (4, .pointer (some ⟨tb, 0, none⟩)), (5, .pointer (some ⟨rb, 0, none⟩)), (7, .string y), (8, .int .i64 i)])
            (fun i w9 => RQ w1 w9 O rb tb ys b0 vs [] [] ∧ i ≤ vs.length ∧ ∀ (j : Nat) (hj : j < vs.length), j < i → lowS vs[j] ≠ lowS y)
            (fun i => vs.length - i) 0 ⟨rfl, rfl, rfl, rfl, rfl, trivial⟩ ⟨h8, by omega, fun j hj h0 => by omega⟩ ?_
          rintro i w9 ρ2 ⟨h9, hi, hd⟩
          (conv => whnf)
          obtain ⟨VA, vc, hVS, hc4⟩ := h9.cell4
          refine LoadV.of hc4 ?_
          (conv => whnf)
          (repeat' (first
      | (refine Obl.mk ⟨by omega, by omega⟩ ?_; conv => whnf)
      | (refine Obl.mk ⟨by omega, by omega, ⟨by omega, by omega⟩⟩ ?_; conv => whnf)
      | ((with_reducible refine Tst.tt ?_); conv => whnf)
      | ((with_reducible refine Tst.ff ?_); conv => whnf)
      | ((with_reducible refine Tst.dec (fun _ => ?_) (fun _ => ?_)) <;> first | (exfalso; omega) | (conv => whnf))
      | ((with_reducible refine Tst.not ?_))
      | (refine Wit.conv ⟨by omega, by omega⟩ ?_; conv => whnf)
      | ((with_reducible refine IdxV.nat (by omega) ?_); conv => whnf)
      | ((with_reducible refine SameW.mk rfl ?_); conv => whnf)
      | (refine LoadV.mem (i := 0) (by assumption) rfl rfl ?_; conv => whnf)
      | (refine LoadV.mem (i := 1) (by assumption) rfl rfl ?_; conv => whnf)
      | (refine LoadV.mem (i := 2) (by assumption) rfl rfl ?_; conv => whnf)
      | ((with_reducible refine Tst.beqT ?_))
      | ((with_reducible refine Tst.beqF ?_))
      | (refine Tst.yes rfl ?_; conv => whnf)
      | (refine Tst.no rfl ?_; conv => whnf)))
          · have hil : i < vs.length := by omega
            have hvi := hv4 _ (List.getElem_mem hil)
            refine LoadV.of hc4 ?_
            (conv => whnf)
            refine ElemV.sl hVS rfl i rfl hil ?_
            intro b2 off2 hcl2
            (conv => whnf)
            refine LoadV.cell0 hcl2 ?_
            (conv => whnf)
            refine CallV.of (refLower_any vs[i] (by omega) w9) ?_
            rintro v w10 ⟨rfl, he10⟩
            (conv => whnf)
            refine CallV.of (refLower_any y (by omega) w10) ?_
            rintro v w11 ⟨rfl, he11⟩
            have h11 := (h9.call he10).call he11
            cases q2 : seq (lowS vs[i]) (lowS y)
            · (conv => whnf)
              rw [q2]
              (repeat' (first
      | (refine Obl.mk ⟨by omega, by omega⟩ ?_; conv => whnf)
      | (refine Obl.mk ⟨by omega, by omega, ⟨by omega, by omega⟩⟩ ?_; conv => whnf)
      | ((with_reducible refine Tst.tt ?_); conv => whnf)
      | ((with_reducible refine Tst.ff ?_); conv => whnf)
      | ((with_reducible refine Tst.dec (fun _ => ?_) (fun _ => ?_)) <;> first | (exfalso; omega) | (conv => whnf))
      | ((with_reducible refine Tst.not ?_))
      | (refine Wit.conv ⟨by omega, by omega⟩ ?_; conv => whnf)
      | ((with_reducible refine IdxV.nat (by omega) ?_); conv => whnf)
      | ((with_reducible refine SameW.mk rfl ?_); conv => whnf)
      | (refine LoadV.mem (i := 0) (by assumption) rfl rfl ?_; conv => whnf)
      | (refine LoadV.mem (i := 1) (by assumption) rfl rfl ?_; conv => whnf)
      | (refine LoadV.mem (i := 2) (by assumption) rfl rfl ?_; conv => whnf)
      | ((with_reducible refine Tst.beqT ?_))
      | ((with_reducible refine Tst.beqF ?_))
      | (refine Tst.yes rfl ?_; conv => whnf)
      | (refine Tst.no rfl ?_; conv => whnf)))
              refine ⟨i + 1, ⟨rfl, rfl, rfl, rfl, rfl, trivial⟩, ⟨h11, by omega, fun j hj hji => ?_⟩, by omega⟩
              by_cases e : j = i
              · subst e
                intro e'
                rw [seq_iff.2 e'] at q2; cases q2
              · exact hd j hj (by omega)
            · have hin : lowS y ∈ vs.map lowS := List.mem_map.2 ⟨_, List.getElem_mem hil, seq_iff.1 q2⟩
              rw [if_pos hin] at hT
              have hno : ¬ tagP l := fun h => by obtain ⟨l1, h1, _⟩ := h; rw [hT] at h1; cases h1
              (conv => whnf)
              rw [q2]
              (repeat' (first
      | (refine Obl.mk ⟨by omega, by omega⟩ ?_; conv => whnf)
      | (refine Obl.mk ⟨by omega, by omega, ⟨by omega, by omega⟩⟩ ?_; conv => whnf)
      | ((with_reducible refine Tst.tt ?_); conv => whnf)
      | ((with_reducible refine Tst.ff ?_); conv => whnf)
      | ((with_reducible refine Tst.dec (fun _ => ?_) (fun _ => ?_)) <;> first | (exfalso; omega) | (conv => whnf))
      | ((with_reducible refine Tst.not ?_))
      | (refine Wit.conv ⟨by omega, by omega⟩ ?_; conv => whnf)
      | ((with_reducible refine IdxV.nat (by omega) ?_); conv => whnf)
      | ((with_reducible refine SameW.mk rfl ?_); conv => whnf)
      | (refine LoadV.mem (i := 0) (by assumption) rfl rfl ?_; conv => whnf)
      | (refine LoadV.mem (i := 1) (by assumption) rfl rfl ?_; conv => whnf)
      | (refine LoadV.mem (i := 2) (by assumption) rfl rfl ?_; conv => whnf)
      | ((with_reducible refine Tst.beqT ?_))
      | ((with_reducible refine Tst.beqF ?_))
      | (refine Tst.yes rfl ?_; conv => whnf)
      | (refine Tst.no rfl ?_; conv => whnf)))
              refine StoreA.mem (hm1.call h11.ext) (i := 0) rfl (Nat.le_refl 7) zero7 ?_
              intro w9 hm9
              (conv => whnf)
              refine res_any (R := fun v w' => TagV l v ∧ Ext w w') ?_
              (conv => whnf)
              refine LoadA.mem hm9 (i := 0) rfl rfl ?_
              (conv => whnf)
              exact ⟨⟨_, _, _, _, _, _, _, zero7, by rw [tagE_no hno]; rfl⟩, hm9.ext⟩
          · have hno : lowS y ∉ vs.map lowS := by
              intro h0
              obtain ⟨z, hz, e⟩ := List.mem_map.1 h0
              obtain ⟨j, hj, rfl⟩ := List.mem_iff_getElem.1 hz
              exact hd j hj (by omega) e
            rw [if_neg hno] at hT
            clear hVS hc4
            obtain ⟨A, c, X, Y, a1, a2, a3, a6, L, h9⟩ := h9
            obtain ⟨VA, vc, e⟩ := (h9.rows.row 0 _ rfl).slice
            simp only [List.length_map] at e
            subst e
            refine LoadV.own (h9.mem.get h9.tg) rfl ?_
            (conv => whnf)
            refine NewV.rq0 h9 ?_
            intro nb w10 h10 hnb
            (conv => whnf)
            refine h10.app4 hnb (by omega) ?_
            intro B' d' w11 L' h11
            (conv => whnf)
            refine h11.st4 ?_
            intro w12 h12
            (conv => whnf)
            refine ⟨(vs ++ [y], ys, b0), ⟨rfl, rfl, rfl, trivial⟩, ⟨h12, by rw [hT, List.map_append]; rfl, ?_, by simp; omega⟩, by simp⟩
            intro v hv
            rcases List.mem_append.1 hv with hv | hv
            · exact hv4 v hv
            · obtain rfl := List.mem_singleton.1 hv
              exact ⟨hy4, hy⟩
    case p =>
      subst hF hI hmm
      clear hT h6 hlen
      rintro ⟨k, r5, es⟩ w7 ρ2 ⟨h7, hT, hk, hes, hlen⟩
      simp only at h7 hT hk hes hlen
      dsimp only
      have stop : ∀ z zs, r5 = z :: zs → extS z = false → tagR l = some r5 := by
        rintro z zs rfl hz
        obtain ⟨k, rfl⟩ : ∃ k', k = k' + 1 := ⟨k - 1, by simp at hk; omega⟩
        rw [hT, extN, if_neg (by rw [hz]; simp)]
      (conv => whnf)
      refine h7.ldr ?_
      intro A c hS hc
      (conv => whnf)
      rcases r5 with _ | ⟨y, ys⟩
      · have hR : tagR l = some [] := by rw [hT]; cases k <;> rfl
        refine Tst.no (decide_eq_false (by simp)) ?_
        (conv => whnf)
        (repeat' (first
      | (refine Obl.mk ⟨by omega, by omega⟩ ?_; conv => whnf)
      | (refine Obl.mk ⟨by omega, by omega, ⟨by omega, by omega⟩⟩ ?_; conv => whnf)
      | ((with_reducible refine Tst.tt ?_); conv => whnf)
      | ((with_reducible refine Tst.ff ?_); conv => whnf)
      | ((with_reducible refine Tst.dec (fun _ => ?_) (fun _ => ?_)) <;> first | (exfalso; omega) | (conv => whnf))
      | ((with_reducible refine Tst.not ?_))
      | (refine Wit.conv ⟨by omega, by omega⟩ ?_; conv => whnf)
      | ((with_reducible refine IdxV.nat (by omega) ?_); conv => whnf)
      | ((with_reducible refine SameW.mk rfl ?_); conv => whnf)
      | (refine LoadV.mem (i := 0) (by assumption) rfl rfl ?_; conv => whnf)
      | (refine LoadV.mem (i := 1) (by assumption) rfl rfl ?_; conv => whnf)
      | (refine LoadV.mem (i := 2) (by assumption) rfl rfl ?_; conv => whnf)
      | ((with_reducible refine Tst.beqT ?_))
      | ((with_reducible refine Tst.beqF ?_))
      | (refine Tst.yes rfl ?_; conv => whnf)
      | (refine Tst.no rfl ?_; conv => whnf)))
        refine h7.ldr ?_
        intro A2 c2 hS2 hc2
        (conv => whnf)
        refine Tst.no (decide_eq_false (by simp)) ?_
        (conv => whnf)
        (repeat' (first
      | (refine Obl.mk ⟨by omega, by omega⟩ ?_; conv => whnf)
      | (refine Obl.mk ⟨by omega, by omega, ⟨by omega, by omega⟩⟩ ?_; conv => whnf)
      | ((with_reducible refine Tst.tt ?_); conv => whnf)
      | ((with_reducible refine Tst.ff ?_); conv => whnf)
      | ((with_reducible refine Tst.dec (fun _ => ?_) (fun _ => ?_)) <;> first | (exfalso; omega) | (conv => whnf))
      | ((with_reducible refine Tst.not ?_))
      | (refine Wit.conv ⟨by omega, by omega⟩ ?_; conv => whnf)
      | ((with_reducible refine IdxV.nat (by omega) ?_); conv => whnf)
      | ((with_reducible refine SameW.mk rfl ?_); conv => whnf)
      | (refine LoadV.mem (i := 0) (by assumption) rfl rfl ?_; conv => whnf)
      | (refine LoadV.mem (i := 1) (by assumption) rfl rfl ?_; conv => whnf)
      | (refine LoadV.mem (i := 2) (by assumption) rfl rfl ?_; conv => whnf)
      | ((with_reducible refine Tst.beqT ?_))
      | ((with_reducible refine Tst.beqF ?_))
      | (refine Tst.yes rfl ?_; conv => whnf)
      | (refine Tst.no rfl ?_; conv => whnf)))
        refine h7.ldr ?_
        intro A3 c3 hS3 hc3
        (conv => whnf)
        (repeat' (first
      | (refine Obl.mk ⟨by omega, by omega⟩ ?_; conv => whnf)
      | (refine Obl.mk ⟨by omega, by omega, ⟨by omega, by omega⟩⟩ ?_; conv => whnf)
      | ((with_reducible refine Tst.tt ?_); conv => whnf)
      | ((with_reducible refine Tst.ff ?_); conv => whnf)
      | ((with_reducible refine Tst.dec (fun _ => ?_) (fun _ => ?_)) <;> first | (exfalso; omega) | (conv => whnf))
      | ((with_reducible refine Tst.not ?_))
      | (refine Wit.conv ⟨by omega, by omega⟩ ?_; conv => whnf)
      | ((with_reducible refine IdxV.nat (by omega) ?_); conv => whnf)
      | ((with_reducible refine SameW.mk rfl ?_); conv => whnf)
      | (refine LoadV.mem (i := 0) (by assumption) rfl rfl ?_; conv => whnf)
      | (refine LoadV.mem (i := 1) (by assumption) rfl rfl ?_; conv => whnf)
      | (refine LoadV.mem (i := 2) (by assumption) rfl rfl ?_; conv => whnf)
      | ((with_reducible refine Tst.beqT ?_))
      | ((with_reducible refine Tst.beqF ?_))
      | (refine Tst.yes rfl ?_; conv => whnf)
      | (refine Tst.no rfl ?_; conv => whnf)))
        · rename_i hh; exact absurd hh (by simp)
        refine h7.ldA ?_
        intro s0 s1 s2 s3 A4 n4 c4 A5 n5 c5 s6 hone
        (conv => whnf)
        refine StoreA.mem (hm1.call h7.ext) (i := 0) rfl (Nat.le_refl 7) hone ?_
        intro w9 hm9
        (conv => whnf)
        refine res_any (R := fun v w' => TagV l v ∧ Ext w w') ?_
        (conv => whnf)
        refine LoadA.mem hm9 (i := 0) rfl rfl ?_
        (conv => whnf)
        exact ⟨⟨_, _, _, _, _, _, _, hone, by rw [tagE_ok ⟨[], hR, by rw [endOk, if_neg (by simp [seeB])]⟩]; rfl⟩, hm9.ext⟩
      · simp only [List.length_cons] at hc hlen hk ⊢
        have hy := h7.small y (List.mem_cons_self ..)
        refine Tst.yes (decide_eq_true (by omega)) ?_
        (conv => whnf)
        (repeat' (first
      | (refine Obl.mk ⟨by omega, by omega⟩ ?_; conv => whnf)
      | (refine Obl.mk ⟨by omega, by omega, ⟨by omega, by omega⟩⟩ ?_; conv => whnf)
      | ((with_reducible refine Tst.tt ?_); conv => whnf)
      | ((with_reducible refine Tst.ff ?_); conv => whnf)
      | ((with_reducible refine Tst.dec (fun _ => ?_) (fun _ => ?_)) <;> first | (exfalso; omega) | (conv => whnf))
      | ((with_reducible refine Tst.not ?_))
      | (refine Wit.conv ⟨by omega, by omega⟩ ?_; conv => whnf)
      | ((with_reducible refine IdxV.nat (by omega) ?_); conv => whnf)
      | ((with_reducible refine SameW.mk rfl ?_); conv => whnf)
      | (refine LoadV.mem (i := 0) (by assumption) rfl rfl ?_; conv => whnf)
      | (refine LoadV.mem (i := 1) (by assumption) rfl rfl ?_; conv => whnf)
      | (refine LoadV.mem (i := 2) (by assumption) rfl rfl ?_; conv => whnf)
      | ((with_reducible refine Tst.beqT ?_))
      | ((with_reducible refine Tst.beqF ?_))
      | (refine Tst.yes rfl ?_; conv => whnf)
      | (refine Tst.no rfl ?_; conv => whnf)))
        refine h7.ldr ?_
        intro A c hS hc
        (conv => whnf)
        (repeat' (first
      | (refine Obl.mk ⟨by omega, by omega⟩ ?_; conv => whnf)
      | (refine Obl.mk ⟨by omega, by omega, ⟨by omega, by omega⟩⟩ ?_; conv => whnf)
      | ((with_reducible refine Tst.tt ?_); conv => whnf)
      | ((with_reducible refine Tst.ff ?_); conv => whnf)
      | ((with_reducible refine Tst.dec (fun _ => ?_) (fun _ => ?_)) <;> first | (exfalso; omega) | (conv => whnf))
      | ((with_reducible refine Tst.not ?_))
      | (refine Wit.conv ⟨by omega, by omega⟩ ?_; conv => whnf)
      | ((with_reducible refine IdxV.nat (by omega) ?_); conv => whnf)
      | ((with_reducible refine SameW.mk rfl ?_); conv => whnf)
      | (refine LoadV.mem (i := 0) (by assumption) rfl rfl ?_; conv => whnf)
      | (refine LoadV.mem (i := 1) (by assumption) rfl rfl ?_; conv => whnf)
      | (refine LoadV.mem (i := 2) (by assumption) rfl rfl ?_; conv => whnf)
      | ((with_reducible refine Tst.beqT ?_))
      | ((with_reducible refine Tst.beqF ?_))
      | (refine Tst.yes rfl ?_; conv => whnf)
      | (refine Tst.no rfl ?_; conv => whnf)))
        refine ElemV.sl hS rfl 0 rfl (by simp) ?_
        intro b off hcl
        (conv => whnf)
        (repeat' (first
      | (refine Obl.mk ⟨by omega, by omega⟩ ?_; conv => whnf)
      | (refine Obl.mk ⟨by omega, by omega, ⟨by omega, by omega⟩⟩ ?_; conv => whnf)
      | ((with_reducible refine Tst.tt ?_); conv => whnf)
      | ((with_reducible refine Tst.ff ?_); conv => whnf)
      | ((with_reducible refine Tst.dec (fun _ => ?_) (fun _ => ?_)) <;> first | (exfalso; omega) | (conv => whnf))
      | ((with_reducible refine Tst.not ?_))
      | (refine Wit.conv ⟨by omega, by omega⟩ ?_; conv => whnf)
      | ((with_reducible refine IdxV.nat (by omega) ?_); conv => whnf)
      | ((with_reducible refine SameW.mk rfl ?_); conv => whnf)
      | (refine LoadV.mem (i := 0) (by assumption) rfl rfl ?_; conv => whnf)
      | (refine LoadV.mem (i := 1) (by assumption) rfl rfl ?_; conv => whnf)
      | (refine LoadV.mem (i := 2) (by assumption) rfl rfl ?_; conv => whnf)
      | ((with_reducible refine Tst.beqT ?_))
      | ((with_reducible refine Tst.beqF ?_))
      | (refine Tst.yes rfl ?_; conv => whnf)
      | (refine Tst.no rfl ?_; conv => whnf)))
        refine LoadV.cell0 hcl ?_
        (conv => whnf)
        (repeat' (first
      | (refine Obl.mk ⟨by omega, by omega⟩ ?_; conv => whnf)
      | (refine Obl.mk ⟨by omega, by omega, ⟨by omega, by omega⟩⟩ ?_; conv => whnf)
      | ((with_reducible refine Tst.tt ?_); conv => whnf)
      | ((with_reducible refine Tst.ff ?_); conv => whnf)
      | ((with_reducible refine Tst.dec (fun _ => ?_) (fun _ => ?_)) <;> first | (exfalso; omega) | (conv => whnf))
      | ((with_reducible refine Tst.not ?_))
      | (refine Wit.conv ⟨by omega, by omega⟩ ?_; conv => whnf)
      | ((with_reducible refine IdxV.nat (by omega) ?_); conv => whnf)
      | ((with_reducible refine SameW.mk rfl ?_); conv => whnf)
      | (refine LoadV.mem (i := 0) (by assumption) rfl rfl ?_; conv => whnf)
      | (refine LoadV.mem (i := 1) (by assumption) rfl rfl ?_; conv => whnf)
      | (refine LoadV.mem (i := 2) (by assumption) rfl rfl ?_; conv => whnf)
      | ((with_reducible refine Tst.beqT ?_))
      | ((with_reducible refine Tst.beqF ?_))
      | (refine Tst.yes rfl ?_; conv => whnf)
      | (refine Tst.no rfl ?_; conv => whnf)))
        refine CallV.of (refLower_any y (by omega) w7) ?_
        rintro v w8 ⟨rfl, he8⟩
        have h8 := h7.call he8
        (conv => whnf)
        (repeat' (first
      | (refine Obl.mk ⟨by omega, by omega⟩ ?_; conv => whnf)
      | (refine Obl.mk ⟨by omega, by omega, ⟨by omega, by omega⟩⟩ ?_; conv => whnf)
      | ((with_reducible refine Tst.tt ?_); conv => whnf)
      | ((with_reducible refine Tst.ff ?_); conv => whnf)
      | ((with_reducible refine Tst.dec (fun _ => ?_) (fun _ => ?_)) <;> first | (exfalso; omega) | (conv => whnf))
      | ((with_reducible refine Tst.not ?_))
      | (refine Wit.conv ⟨by omega, by omega⟩ ?_; conv => whnf)
      | ((with_reducible refine IdxV.nat (by omega) ?_); conv => whnf)
      | ((with_reducible refine SameW.mk rfl ?_); conv => whnf)
      | (refine LoadV.mem (i := 0) (by assumption) rfl rfl ?_; conv => whnf)
      | (refine LoadV.mem (i := 1) (by assumption) rfl rfl ?_; conv => whnf)
      | (refine LoadV.mem (i := 2) (by assumption) rfl rfl ?_; conv => whnf)
      | ((with_reducible refine Tst.beqT ?_))
      | ((with_reducible refine Tst.beqF ?_))
      | (refine Tst.yes rfl ?_; conv => whnf)
      | (refine Tst.no rfl ?_; conv => whnf)))
        rw [lowS_x]
        cases q : privB y
        · (repeat' (first
      | (refine Obl.mk ⟨by omega, by omega⟩ ?_; conv => whnf)
      | (refine Obl.mk ⟨by omega, by omega, ⟨by omega, by omega⟩⟩ ?_; conv => whnf)
      | ((with_reducible refine Tst.tt ?_); conv => whnf)
      | ((with_reducible refine Tst.ff ?_); conv => whnf)
      | ((with_reducible refine Tst.dec (fun _ => ?_) (fun _ => ?_)) <;> first | (exfalso; omega) | (conv => whnf))
      | ((with_reducible refine Tst.not ?_))
      | (refine Wit.conv ⟨by omega, by omega⟩ ?_; conv => whnf)
      | ((with_reducible refine IdxV.nat (by omega) ?_); conv => whnf)
      | ((with_reducible refine SameW.mk rfl ?_); conv => whnf)
      | (refine LoadV.mem (i := 0) (by assumption) rfl rfl ?_; conv => whnf)
      | (refine LoadV.mem (i := 1) (by assumption) rfl rfl ?_; conv => whnf)
      | (refine LoadV.mem (i := 2) (by assumption) rfl rfl ?_; conv => whnf)
      | ((with_reducible refine Tst.beqT ?_))
      | ((with_reducible refine Tst.beqF ?_))
      | (refine Tst.yes rfl ?_; conv => whnf)
      | (refine Tst.no rfl ?_; conv => whnf)))
          refine h8.ldr ?_
          intro A2 c2 hS2 hc2
          (conv => whnf)
          (repeat' (first
      | (refine Obl.mk ⟨by omega, by omega⟩ ?_; conv => whnf)
      | (refine Obl.mk ⟨by omega, by omega, ⟨by omega, by omega⟩⟩ ?_; conv => whnf)
      | ((with_reducible refine Tst.tt ?_); conv => whnf)
      | ((with_reducible refine Tst.ff ?_); conv => whnf)
      | ((with_reducible refine Tst.dec (fun _ => ?_) (fun _ => ?_)) <;> first | (exfalso; omega) | (conv => whnf))
      | ((with_reducible refine Tst.not ?_))
      | (refine Wit.conv ⟨by omega, by omega⟩ ?_; conv => whnf)
      | ((with_reducible refine IdxV.nat (by omega) ?_); conv => whnf)
      | ((with_reducible refine SameW.mk rfl ?_); conv => whnf)
      | (refine LoadV.mem (i := 0) (by assumption) rfl rfl ?_; conv => whnf)
      | (refine LoadV.mem (i := 1) (by assumption) rfl rfl ?_; conv => whnf)
      | (refine LoadV.mem (i := 2) (by assumption) rfl rfl ?_; conv => whnf)
      | ((with_reducible refine Tst.beqT ?_))
      | ((with_reducible refine Tst.beqF ?_))
      | (refine Tst.yes rfl ?_; conv => whnf)
      | (refine Tst.no rfl ?_; conv => whnf)))
          refine ElemV.sl hS2 rfl 0 rfl (by simp) ?_
          intro b2 off2 hcl2
          (conv => whnf)
          (repeat' (first
      | (refine Obl.mk ⟨by omega, by omega⟩ ?_; conv => whnf)
      | (refine Obl.mk ⟨by omega, by omega, ⟨by omega, by omega⟩⟩ ?_; conv => whnf)
      | ((with_reducible refine Tst.tt ?_); conv => whnf)
      | ((with_reducible refine Tst.ff ?_); conv => whnf)
      | ((with_reducible refine Tst.dec (fun _ => ?_) (fun _ => ?_)) <;> first | (exfalso; omega) | (conv => whnf))
      | ((with_reducible refine Tst.not ?_))
      | (refine Wit.conv ⟨by omega, by omega⟩ ?_; conv => whnf)
      | ((with_reducible refine IdxV.nat (by omega) ?_); conv => whnf)
      | ((with_reducible refine SameW.mk rfl ?_); conv => whnf)
      | (refine LoadV.mem (i := 0) (by assumption) rfl rfl ?_; conv => whnf)
      | (refine LoadV.mem (i := 1) (by assumption) rfl rfl ?_; conv => whnf)
      | (refine LoadV.mem (i := 2) (by assumption) rfl rfl ?_; conv => whnf)
      | ((with_reducible refine Tst.beqT ?_))
      | ((with_reducible refine Tst.beqF ?_))
      | (refine Tst.yes rfl ?_; conv => whnf)
      | (refine Tst.no rfl ?_; conv => whnf)))
          refine LoadV.cell0 hcl2 ?_
          (conv => whnf)
          (repeat' (first
      | (refine Obl.mk ⟨by omega, by omega⟩ ?_; conv => whnf)
      | (refine Obl.mk ⟨by omega, by omega, ⟨by omega, by omega⟩⟩ ?_; conv => whnf)
      | ((with_reducible refine Tst.tt ?_); conv => whnf)
      | ((with_reducible refine Tst.ff ?_); conv => whnf)
      | ((with_reducible refine Tst.dec (fun _ => ?_) (fun _ => ?_)) <;> first | (exfalso; omega) | (conv => whnf))
      | ((with_reducible refine Tst.not ?_))
      | (refine Wit.conv ⟨by omega, by omega⟩ ?_; conv => whnf)
      | ((with_reducible refine IdxV.nat (by omega) ?_); conv => whnf)
      | ((with_reducible refine SameW.mk rfl ?_); conv => whnf)
      | (refine LoadV.mem (i := 0) (by assumption) rfl rfl ?_; conv => whnf)
      | (refine LoadV.mem (i := 1) (by assumption) rfl rfl ?_; conv => whnf)
      | (refine LoadV.mem (i := 2) (by assumption) rfl rfl ?_; conv => whnf)
      | ((with_reducible refine Tst.beqT ?_))
      | ((with_reducible refine Tst.beqF ?_))
      | (refine Tst.yes rfl ?_; conv => whnf)
      | (refine Tst.no rfl ?_; conv => whnf)))
          refine CallV.of (both_any y 1 1 (by omega) w8) ?_
          rintro v w9 ⟨rfl, rfl⟩
          cases q1 : madeB y 1 1 false
          · have hR := stop y ys rfl (by rw [extS, q1]; rfl)
            have hno : ¬ tagP l := fun h => by
              obtain ⟨l1, h1, h2⟩ := h
              rw [hR] at h1
              cases h1
              rw [endOk, if_neg (by show ¬ privB y = true; rw [q]; simp)] at h2
              cases h2
            (conv => whnf)
            (repeat' (first
      | (refine Obl.mk ⟨by omega, by omega⟩ ?_; conv => whnf)
      | (refine Obl.mk ⟨by omega, by omega, ⟨by omega, by omega⟩⟩ ?_; conv => whnf)
      | ((with_reducible refine Tst.tt ?_); conv => whnf)
      | ((with_reducible refine Tst.ff ?_); conv => whnf)
      | ((with_reducible refine Tst.dec (fun _ => ?_) (fun _ => ?_)) <;> first | (exfalso; omega) | (conv => whnf))
      | ((with_reducible refine Tst.not ?_))
      | (refine Wit.conv ⟨by omega, by omega⟩ ?_; conv => whnf)
      | ((with_reducible refine IdxV.nat (by omega) ?_); conv => whnf)
      | ((with_reducible refine SameW.mk rfl ?_); conv => whnf)
      | (refine LoadV.mem (i := 0) (by assumption) rfl rfl ?_; conv => whnf)
      | (refine LoadV.mem (i := 1) (by assumption) rfl rfl ?_; conv => whnf)
      | (refine LoadV.mem (i := 2) (by assumption) rfl rfl ?_; conv => whnf)
      | ((with_reducible refine Tst.beqT ?_))
      | ((with_reducible refine Tst.beqF ?_))
      | (refine Tst.yes rfl ?_; conv => whnf)
      | (refine Tst.no rfl ?_; conv => whnf)))
            refine h8.ldr ?_
            intro A3 c3 hS3 hc3
            (conv => whnf)
            refine Tst.yes (decide_eq_true (by simp only [List.length_cons]; omega)) ?_
            (conv => whnf)
            (repeat' (first
      | (refine Obl.mk ⟨by omega, by omega⟩ ?_; conv => whnf)
      | (refine Obl.mk ⟨by omega, by omega, ⟨by omega, by omega⟩⟩ ?_; conv => whnf)
      | ((with_reducible refine Tst.tt ?_); conv => whnf)
      | ((with_reducible refine Tst.ff ?_); conv => whnf)
      | ((with_reducible refine Tst.dec (fun _ => ?_) (fun _ => ?_)) <;> first | (exfalso; omega) | (conv => whnf))
      | ((with_reducible refine Tst.not ?_))
      | (refine Wit.conv ⟨by omega, by omega⟩ ?_; conv => whnf)
      | ((with_reducible refine IdxV.nat (by omega) ?_); conv => whnf)
      | ((with_reducible refine SameW.mk rfl ?_); conv => whnf)
      | (refine LoadV.mem (i := 0) (by assumption) rfl rfl ?_; conv => whnf)
      | (refine LoadV.mem (i := 1) (by assumption) rfl rfl ?_; conv => whnf)
      | (refine LoadV.mem (i := 2) (by assumption) rfl rfl ?_; conv => whnf)
      | ((with_reducible refine Tst.beqT ?_))
      | ((with_reducible refine Tst.beqF ?_))
      | (refine Tst.yes rfl ?_; conv => whnf)
      | (refine Tst.no rfl ?_; conv => whnf)))
            refine h8.ldr ?_
            intro A4 c4 hS4 hc4
            (conv => whnf)
            (repeat' (first
      | (refine Obl.mk ⟨by omega, by omega⟩ ?_; conv => whnf)
      | (refine Obl.mk ⟨by omega, by omega, ⟨by omega, by omega⟩⟩ ?_; conv => whnf)
      | ((with_reducible refine Tst.tt ?_); conv => whnf)
      | ((with_reducible refine Tst.ff ?_); conv => whnf)
      | ((with_reducible refine Tst.dec (fun _ => ?_) (fun _ => ?_)) <;> first | (exfalso; omega) | (conv => whnf))
      | ((with_reducible refine Tst.not ?_))
      | (refine Wit.conv ⟨by omega, by omega⟩ ?_; conv => whnf)
      | ((with_reducible refine IdxV.nat (by omega) ?_); conv => whnf)
      | ((with_reducible refine SameW.mk rfl ?_); conv => whnf)
      | (refine LoadV.mem (i := 0) (by assumption) rfl rfl ?_; conv => whnf)
      | (refine LoadV.mem (i := 1) (by assumption) rfl rfl ?_; conv => whnf)
      | (refine LoadV.mem (i := 2) (by assumption) rfl rfl ?_; conv => whnf)
      | ((with_reducible refine Tst.beqT ?_))
      | ((with_reducible refine Tst.beqF ?_))
      | (refine Tst.yes rfl ?_; conv => whnf)
      | (refine Tst.no rfl ?_; conv => whnf)))
            refine ElemV.sl hS4 rfl 0 rfl (by simp) ?_
            intro b3 off3 hcl3
            (conv => whnf)
            (repeat' (first
      | (refine Obl.mk ⟨by omega, by omega⟩ ?_; conv => whnf)
      | (refine Obl.mk ⟨by omega, by omega, ⟨by omega, by omega⟩⟩ ?_; conv => whnf)
      | ((with_reducible refine Tst.tt ?_); conv => whnf)
      | ((with_reducible refine Tst.ff ?_); conv => whnf)
      | ((with_reducible refine Tst.dec (fun _ => ?_) (fun _ => ?_)) <;> first | (exfalso; omega) | (conv => whnf))
      | ((with_reducible refine Tst.not ?_))
      | (refine Wit.conv ⟨by omega, by omega⟩ ?_; conv => whnf)
      | ((with_reducible refine IdxV.nat (by omega) ?_); conv => whnf)
      | ((with_reducible refine SameW.mk rfl ?_); conv => whnf)
      | (refine LoadV.mem (i := 0) (by assumption) rfl rfl ?_; conv => whnf)
      | (refine LoadV.mem (i := 1) (by assumption) rfl rfl ?_; conv => whnf)
      | (refine LoadV.mem (i := 2) (by assumption) rfl rfl ?_; conv => whnf)
      | ((with_reducible refine Tst.beqT ?_))
      | ((with_reducible refine Tst.beqF ?_))
      | (refine Tst.yes rfl ?_; conv => whnf)
      | (refine Tst.no rfl ?_; conv => whnf)))
            refine LoadV.cell0 hcl3 ?_
            (conv => whnf)
            (repeat' (first
      | (refine Obl.mk ⟨by omega, by omega⟩ ?_; conv => whnf)
      | (refine Obl.mk ⟨by omega, by omega, ⟨by omega, by omega⟩⟩ ?_; conv => whnf)
      | ((with_reducible refine Tst.tt ?_); conv => whnf)
      | ((with_reducible refine Tst.ff ?_); conv => whnf)
      | ((with_reducible refine Tst.dec (fun _ => ?_) (fun _ => ?_)) <;> first | (exfalso; omega) | (conv => whnf))
      | ((with_reducible refine Tst.not ?_))
      | (refine Wit.conv ⟨by omega, by omega⟩ ?_; conv => whnf)
      | ((with_reducible refine IdxV.nat (by omega) ?_); conv => whnf)
      | ((with_reducible refine SameW.mk rfl ?_); conv => whnf)
      | (refine LoadV.mem (i := 0) (by assumption) rfl rfl ?_; conv => whnf)
      | (refine LoadV.mem (i := 1) (by assumption) rfl rfl ?_; conv => whnf)
      | (refine LoadV.mem (i := 2) (by assumption) rfl rfl ?_; conv => whnf)
      | ((with_reducible refine Tst.beqT ?_))
      | ((with_reducible refine Tst.beqF ?_))
      | (refine Tst.yes rfl ?_; conv => whnf)
      | (refine Tst.no rfl ?_; conv => whnf)))
            refine CallV.of (refLower_any y (by omega) _) ?_
            rintro v w9 ⟨rfl, he9⟩
            have h9 := h8.call he9
            (conv => whnf)
            (repeat' (first
      | (refine Obl.mk ⟨by omega, by omega⟩ ?_; conv => whnf)
      | (refine Obl.mk ⟨by omega, by omega, ⟨by omega, by omega⟩⟩ ?_; conv => whnf)
      | ((with_reducible refine Tst.tt ?_); conv => whnf)
      | ((with_reducible refine Tst.ff ?_); conv => whnf)
      | ((with_reducible refine Tst.dec (fun _ => ?_) (fun _ => ?_)) <;> first | (exfalso; omega) | (conv => whnf))
      | ((with_reducible refine Tst.not ?_))
      | (refine Wit.conv ⟨by omega, by omega⟩ ?_; conv => whnf)
      | ((with_reducible refine IdxV.nat (by omega) ?_); conv => whnf)
      | ((with_reducible refine SameW.mk rfl ?_); conv => whnf)
      | (refine LoadV.mem (i := 0) (by assumption) rfl rfl ?_; conv => whnf)
      | (refine LoadV.mem (i := 1) (by assumption) rfl rfl ?_; conv => whnf)
      | (refine LoadV.mem (i := 2) (by assumption) rfl rfl ?_; conv => whnf)
      | ((with_reducible refine Tst.beqT ?_))
      | ((with_reducible refine Tst.beqF ?_))
      | (refine Tst.yes rfl ?_; conv => whnf)
      | (refine Tst.no rfl ?_; conv => whnf)))
            rw [lowS_x, q]
            (repeat' (first
      | (refine Obl.mk ⟨by omega, by omega⟩ ?_; conv => whnf)
      | (refine Obl.mk ⟨by omega, by omega, ⟨by omega, by omega⟩⟩ ?_; conv => whnf)
      | ((with_reducible refine Tst.tt ?_); conv => whnf)
      | ((with_reducible refine Tst.ff ?_); conv => whnf)
      | ((with_reducible refine Tst.dec (fun _ => ?_) (fun _ => ?_)) <;> first | (exfalso; omega) | (conv => whnf))
      | ((with_reducible refine Tst.not ?_))
      | (refine Wit.conv ⟨by omega, by omega⟩ ?_; conv => whnf)
      | ((with_reducible refine IdxV.nat (by omega) ?_); conv => whnf)
      | ((with_reducible refine SameW.mk rfl ?_); conv => whnf)
      | (refine LoadV.mem (i := 0) (by assumption) rfl rfl ?_; conv => whnf)
      | (refine LoadV.mem (i := 1) (by assumption) rfl rfl ?_; conv => whnf)
      | (refine LoadV.mem (i := 2) (by assumption) rfl rfl ?_; conv => whnf)
      | ((with_reducible refine Tst.beqT ?_))
      | ((with_reducible refine Tst.beqF ?_))
      | (refine Tst.yes rfl ?_; conv => whnf)
      | (refine Tst.no rfl ?_; conv => whnf)))
            refine h9.ldr ?_
            intro A5 c5 hS5 hc5
            (conv => whnf)
            refine Tst.yes (decide_eq_true (by simp only [List.length_cons]; omega)) ?_
            (conv => whnf)
            refine StoreA.mem (hm1.call h9.ext) (i := 0) rfl (Nat.le_refl 7) zero7 ?_
            intro w9 hm9
            (conv => whnf)
            refine res_any (R := fun v w' => TagV l v ∧ Ext w w') ?_
            (conv => whnf)
            refine LoadA.mem hm9 (i := 0) rfl rfl ?_
            (conv => whnf)
            exact ⟨⟨_, _, _, _, _, _, _, zero7, by rw [tagE_no hno]; rfl⟩, hm9.ext⟩
          · (conv => whnf)
            (repeat' (first
      | (refine Obl.mk ⟨by omega, by omega⟩ ?_; conv => whnf)
      | (refine Obl.mk ⟨by omega, by omega, ⟨by omega, by omega⟩⟩ ?_; conv => whnf)
      | ((with_reducible refine Tst.tt ?_); conv => whnf)
      | ((with_reducible refine Tst.ff ?_); conv => whnf)
      | ((with_reducible refine Tst.dec (fun _ => ?_) (fun _ => ?_)) <;> first | (exfalso; omega) | (conv => whnf))
      | ((with_reducible refine Tst.not ?_))
      | (refine Wit.conv ⟨by omega, by omega⟩ ?_; conv => whnf)
      | ((with_reducible refine IdxV.nat (by omega) ?_); conv => whnf)
      | ((with_reducible refine SameW.mk rfl ?_); conv => whnf)
      | (refine LoadV.mem (i := 0) (by assumption) rfl rfl ?_; conv => whnf)
      | (refine LoadV.mem (i := 1) (by assumption) rfl rfl ?_; conv => whnf)
      | (refine LoadV.mem (i := 2) (by assumption) rfl rfl ?_; conv => whnf)
      | ((with_reducible refine Tst.beqT ?_))
      | ((with_reducible refine Tst.beqF ?_))
      | (refine Tst.yes rfl ?_; conv => whnf)
      | (refine Tst.no rfl ?_; conv => whnf)))
            have hy1 : y.size = 1 := by simp [madeB] at q1; omega
            obtain ⟨k, rfl⟩ : ∃ k', k = k' + 1 := ⟨k - 1, by omega⟩
            rw [extN, if_pos (by rw [extS, q1, q]; rfl)] at hT
            refine CallV.of (extension_rq h8 hy1 hes (by omega)) ?_
            rintro v w10 ⟨he10, (⟨hbad, rfl⟩ | ⟨hgood, rfl, h10⟩)⟩
            · have hno : ¬ tagP l := fun h => by
                obtain ⟨l1, h1, _⟩ := h
                rw [hT, if_pos (hbad.imp id fun ⟨e, he, h9⟩ => List.mem_append_right _ (List.mem_map.2 ⟨e, he, h9⟩))] at h1
                cases h1
              (conv => whnf)
              (repeat' (first
      | (refine Obl.mk ⟨by omega, by omega⟩ ?_; conv => whnf)
      | (refine Obl.mk ⟨by omega, by omega, ⟨by omega, by omega⟩⟩ ?_; conv => whnf)
      | ((with_reducible refine Tst.tt ?_); conv => whnf)
      | ((with_reducible refine Tst.ff ?_); conv => whnf)
      | ((with_reducible refine Tst.dec (fun _ => ?_) (fun _ => ?_)) <;> first | (exfalso; omega) | (conv => whnf))
      | ((with_reducible refine Tst.not ?_))
      | (refine Wit.conv ⟨by omega, by omega⟩ ?_; conv => whnf)
      | ((with_reducible refine IdxV.nat (by omega) ?_); conv => whnf)
      | ((with_reducible refine SameW.mk rfl ?_); conv => whnf)
      | (refine LoadV.mem (i := 0) (by assumption) rfl rfl ?_; conv => whnf)
      | (refine LoadV.mem (i := 1) (by assumption) rfl rfl ?_; conv => whnf)
      | (refine LoadV.mem (i := 2) (by assumption) rfl rfl ?_; conv => whnf)
      | ((with_reducible refine Tst.beqT ?_))
      | ((with_reducible refine Tst.beqF ?_))
      | (refine Tst.yes rfl ?_; conv => whnf)
      | (refine Tst.no rfl ?_; conv => whnf)))
              refine StoreA.mem (hm1.call he10) (i := 0) rfl (Nat.le_refl 7) zero7 ?_
              intro w9 hm9
              (conv => whnf)
              refine res_any (R := fun v w' => TagV l v ∧ Ext w w') ?_
              (conv => whnf)
              refine LoadA.mem hm9 (i := 0) rfl rfl ?_
              (conv => whnf)
              exact ⟨⟨_, _, _, _, _, _, _, zero7, by rw [tagE_no hno]; rfl⟩, hm9.ext⟩
            · have hnot : ¬ (ys.takeWhile extQ = [] ∨ lowS y ∈ vs.map lowS ++ es.map firstL) := by
                rintro (h0 | h0)
                · exact hgood (.inl h0)
                · rcases List.mem_append.1 h0 with h0 | h0
                  · obtain ⟨z, hz, e⟩ := List.mem_map.1 h0
                    have e := congrArg ByteArray.size e
                    rw [lowS_size, lowS_size] at e
                    have := (hv4 z hz).1
                    omega
                  · obtain ⟨z, hz, e⟩ := List.mem_map.1 h0
                    exact hgood (.inr ⟨z, hz, e⟩)
              rw [if_neg hnot] at hT
              obtain ⟨f1, f2⟩ := jn_first (l := ys.takeWhile extQ) hy1
              have hdl : (ys.dropWhile extQ).length + 1 ≤ ys.length + 1 := by
                have := (List.dropWhile_sublist extQ (l := ys)).length_le
                omega
              (conv => whnf)
              (repeat' (first
      | (refine Obl.mk ⟨by omega, by omega⟩ ?_; conv => whnf)
      | (refine Obl.mk ⟨by omega, by omega, ⟨by omega, by omega⟩⟩ ?_; conv => whnf)
      | ((with_reducible refine Tst.tt ?_); conv => whnf)
      | ((with_reducible refine Tst.ff ?_); conv => whnf)
      | ((with_reducible refine Tst.dec (fun _ => ?_) (fun _ => ?_)) <;> first | (exfalso; omega) | (conv => whnf))
      | ((with_reducible refine Tst.not ?_))
      | (refine Wit.conv ⟨by omega, by omega⟩ ?_; conv => whnf)
      | ((with_reducible refine IdxV.nat (by omega) ?_); conv => whnf)
      | ((with_reducible refine SameW.mk rfl ?_); conv => whnf)
      | (refine LoadV.mem (i := 0) (by assumption) rfl rfl ?_; conv => whnf)
      | (refine LoadV.mem (i := 1) (by assumption) rfl rfl ?_; conv => whnf)
      | (refine LoadV.mem (i := 2) (by assumption) rfl rfl ?_; conv => whnf)
      | ((with_reducible refine Tst.beqT ?_))
      | ((with_reducible refine Tst.beqF ?_))
      | (refine Tst.yes rfl ?_; conv => whnf)
      | (refine Tst.no rfl ?_; conv => whnf)))
              refine ⟨(k, ys.dropWhile extQ, es ++ [jnS (y :: ys.takeWhile extQ)]), ⟨rfl, rfl, rfl, trivial⟩, ⟨h10, ?_, by simp only; omega, ?_, by simp only [List.length_append, List.length_singleton]; omega⟩, by simp only; omega⟩
              · simp only [List.map_append, List.map_cons, List.map_nil, f2]
                rw [hT, List.append_assoc]
              · intro e he
                rcases List.mem_append.1 he with he | he
                · exact hes e he
                · obtain rfl := List.mem_singleton.1 he
                  exact f1
        · have hR := stop y ys rfl (priv_no q).2
          (repeat' (first
      | (refine Obl.mk ⟨by omega, by omega⟩ ?_; conv => whnf)
      | (refine Obl.mk ⟨by omega, by omega, ⟨by omega, by omega⟩⟩ ?_; conv => whnf)
      | ((with_reducible refine Tst.tt ?_); conv => whnf)
      | ((with_reducible refine Tst.ff ?_); conv => whnf)
      | ((with_reducible refine Tst.dec (fun _ => ?_) (fun _ => ?_)) <;> first | (exfalso; omega) | (conv => whnf))
      | ((with_reducible refine Tst.not ?_))
      | (refine Wit.conv ⟨by omega, by omega⟩ ?_; conv => whnf)
      | ((with_reducible refine IdxV.nat (by omega) ?_); conv => whnf)
      | ((with_reducible refine SameW.mk rfl ?_); conv => whnf)
      | (refine LoadV.mem (i := 0) (by assumption) rfl rfl ?_; conv => whnf)
      | (refine LoadV.mem (i := 1) (by assumption) rfl rfl ?_; conv => whnf)
      | (refine LoadV.mem (i := 2) (by assumption) rfl rfl ?_; conv => whnf)
      | ((with_reducible refine Tst.beqT ?_))
      | ((with_reducible refine Tst.beqF ?_))
      | (refine Tst.yes rfl ?_; conv => whnf)
      | (refine Tst.no rfl ?_; conv => whnf)))
          refine h8.ldr ?_
          intro A3 c3 hS3 hc3
          (conv => whnf)
          refine Tst.yes (decide_eq_true (by simp only [List.length_cons]; omega)) ?_
          (conv => whnf)
          (repeat' (first
      | (refine Obl.mk ⟨by omega, by omega⟩ ?_; conv => whnf)
      | (refine Obl.mk ⟨by omega, by omega, ⟨by omega, by omega⟩⟩ ?_; conv => whnf)
      | ((with_reducible refine Tst.tt ?_); conv => whnf)
      | ((with_reducible refine Tst.ff ?_); conv => whnf)
      | ((with_reducible refine Tst.dec (fun _ => ?_) (fun _ => ?_)) <;> first | (exfalso; omega) | (conv => whnf))
      | ((with_reducible refine Tst.not ?_))
      | (refine Wit.conv ⟨by omega, by omega⟩ ?_; conv => whnf)
      | ((with_reducible refine IdxV.nat (by omega) ?_); conv => whnf)
      | ((with_reducible refine SameW.mk rfl ?_); conv => whnf)
      | (refine LoadV.mem (i := 0) (by assumption) rfl rfl ?_; conv => whnf)
      | (refine LoadV.mem (i := 1) (by assumption) rfl rfl ?_; conv => whnf)
      | (refine LoadV.mem (i := 2) (by assumption) rfl rfl ?_; conv => whnf)
      | ((with_reducible refine Tst.beqT ?_))
      | ((with_reducible refine Tst.beqF ?_))
      | (refine Tst.yes rfl ?_; conv => whnf)
      | (refine Tst.no rfl ?_; conv => whnf)))
          refine h8.ldr ?_
          intro A4 c4 hS4 hc4
          (conv => whnf)
          (repeat' (first
      | (refine Obl.mk ⟨by omega, by omega⟩ ?_; conv => whnf)
      | (refine Obl.mk ⟨by omega, by omega, ⟨by omega, by omega⟩⟩ ?_; conv => whnf)
      | ((with_reducible refine Tst.tt ?_); conv => whnf)
      | ((with_reducible refine Tst.ff ?_); conv => whnf)
      | ((with_reducible refine Tst.dec (fun _ => ?_) (fun _ => ?_)) <;> first | (exfalso; omega) | (conv => whnf))
      | ((with_reducible refine Tst.not ?_))
      | (refine Wit.conv ⟨by omega, by omega⟩ ?_; conv => whnf)
      | ((with_reducible refine IdxV.nat (by omega) ?_); conv => whnf)
      | ((with_reducible refine SameW.mk rfl ?_); conv => whnf)
      | (refine LoadV.mem (i := 0) (by assumption) rfl rfl ?_; conv => whnf)
      | (refine LoadV.mem (i := 1) (by assumption) rfl rfl ?_; conv => whnf)
      | (refine LoadV.mem (i := 2) (by assumption) rfl rfl ?_; conv => whnf)
      | ((with_reducible refine Tst.beqT ?_))
      | ((with_reducible refine Tst.beqF ?_))
      | (refine Tst.yes rfl ?_; conv => whnf)
      | (refine Tst.no rfl ?_; conv => whnf)))
          refine ElemV.sl hS4 rfl 0 rfl (by simp) ?_
          intro b3 off3 hcl3
          (conv => whnf)
          (repeat' (first
      | (refine Obl.mk ⟨by omega, by omega⟩ ?_; conv => whnf)
      | (refine Obl.mk ⟨by omega, by omega, ⟨by omega, by omega⟩⟩ ?_; conv => whnf)
      | ((with_reducible refine Tst.tt ?_); conv => whnf)
      | ((with_reducible refine Tst.ff ?_); conv => whnf)
      | ((with_reducible refine Tst.dec (fun _ => ?_) (fun _ => ?_)) <;> first | (exfalso; omega) | (conv => whnf))
      | ((with_reducible refine Tst.not ?_))
      | (refine Wit.conv ⟨by omega, by omega⟩ ?_; conv => whnf)
      | ((with_reducible refine IdxV.nat (by omega) ?_); conv => whnf)
      | ((with_reducible refine SameW.mk rfl ?_); conv => whnf)
      | (refine LoadV.mem (i := 0) (by assumption) rfl rfl ?_; conv => whnf)
      | (refine LoadV.mem (i := 1) (by assumption) rfl rfl ?_; conv => whnf)
      | (refine LoadV.mem (i := 2) (by assumption) rfl rfl ?_; conv => whnf)
      | ((with_reducible refine Tst.beqT ?_))
      | ((with_reducible refine Tst.beqF ?_))
      | (refine Tst.yes rfl ?_; conv => whnf)
      | (refine Tst.no rfl ?_; conv => whnf)))
          refine LoadV.cell0 hcl3 ?_
          (conv => whnf)
          (repeat' (first
      | (refine Obl.mk ⟨by omega, by omega⟩ ?_; conv => whnf)
      | (refine Obl.mk ⟨by omega, by omega, ⟨by omega, by omega⟩⟩ ?_; conv => whnf)
      | ((with_reducible refine Tst.tt ?_); conv => whnf)
      | ((with_reducible refine Tst.ff ?_); conv => whnf)
      | ((with_reducible refine Tst.dec (fun _ => ?_) (fun _ => ?_)) <;> first | (exfalso; omega) | (conv => whnf))
      | ((with_reducible refine Tst.not ?_))
      | (refine Wit.conv ⟨by omega, by omega⟩ ?_; conv => whnf)
      | ((with_reducible refine IdxV.nat (by omega) ?_); conv => whnf)
      | ((with_reducible refine SameW.mk rfl ?_); conv => whnf)
      | (refine LoadV.mem (i := 0) (by assumption) rfl rfl ?_; conv => whnf)
      | (refine LoadV.mem (i := 1) (by assumption) rfl rfl ?_; conv => whnf)
      | (refine LoadV.mem (i := 2) (by assumption) rfl rfl ?_; conv => whnf)
      | ((with_reducible refine Tst.beqT ?_))
      | ((with_reducible refine Tst.beqF ?_))
      | (refine Tst.yes rfl ?_; conv => whnf)
      | (refine Tst.no rfl ?_; conv => whnf)))
          refine CallV.of (refLower_any y (by omega) w8) ?_
          rintro v w9 ⟨rfl, he9⟩
          have h9 := h8.call he9
          (conv => whnf)
          (repeat' (first
      | (refine Obl.mk ⟨by omega, by omega⟩ ?_; conv => whnf)
      | (refine Obl.mk ⟨by omega, by omega, ⟨by omega, by omega⟩⟩ ?_; conv => whnf)
      | ((with_reducible refine Tst.tt ?_); conv => whnf)
      | ((with_reducible refine Tst.ff ?_); conv => whnf)
      | ((with_reducible refine Tst.dec (fun _ => ?_) (fun _ => ?_)) <;> first | (exfalso; omega) | (conv => whnf))
      | ((with_reducible refine Tst.not ?_))
      | (refine Wit.conv ⟨by omega, by omega⟩ ?_; conv => whnf)
      | ((with_reducible refine IdxV.nat (by omega) ?_); conv => whnf)
      | ((with_reducible refine SameW.mk rfl ?_); conv => whnf)
      | (refine LoadV.mem (i := 0) (by assumption) rfl rfl ?_; conv => whnf)
      | (refine LoadV.mem (i := 1) (by assumption) rfl rfl ?_; conv => whnf)
      | (refine LoadV.mem (i := 2) (by assumption) rfl rfl ?_; conv => whnf)
      | ((with_reducible refine Tst.beqT ?_))
      | ((with_reducible refine Tst.beqF ?_))
      | (refine Tst.yes rfl ?_; conv => whnf)
      | (refine Tst.no rfl ?_; conv => whnf)))
          rw [lowS_x, q]
          (repeat' (first
      | (refine Obl.mk ⟨by omega, by omega⟩ ?_; conv => whnf)
      | (refine Obl.mk ⟨by omega, by omega, ⟨by omega, by omega⟩⟩ ?_; conv => whnf)
      | ((with_reducible refine Tst.tt ?_); conv => whnf)
      | ((with_reducible refine Tst.ff ?_); conv => whnf)
      | ((with_reducible refine Tst.dec (fun _ => ?_) (fun _ => ?_)) <;> first | (exfalso; omega) | (conv => whnf))
      | ((with_reducible refine Tst.not ?_))
      | (refine Wit.conv ⟨by omega, by omega⟩ ?_; conv => whnf)
      | ((with_reducible refine IdxV.nat (by omega) ?_); conv => whnf)
      | ((with_reducible refine SameW.mk rfl ?_); conv => whnf)
      | (refine LoadV.mem (i := 0) (by assumption) rfl rfl ?_; conv => whnf)
      | (refine LoadV.mem (i := 1) (by assumption) rfl rfl ?_; conv => whnf)
      | (refine LoadV.mem (i := 2) (by assumption) rfl rfl ?_; conv => whnf)
      | ((with_reducible refine Tst.beqT ?_))
      | ((with_reducible refine Tst.beqF ?_))
      | (refine Tst.yes rfl ?_; conv => whnf)
      | (refine Tst.no rfl ?_; conv => whnf)))
          refine CallV.of (private_rq h9 (by simp only [List.length_cons]; omega)) ?_
          rintro v w10 ⟨rfl, h10⟩
          have hend : endOk (y :: ys) ↔ ys ≠ [] ∧ ys.all privQ = true := by rw [endOk, if_pos (by exact q)]; rfl
          rw [List.tail_cons]
          cases q2 : (decide (ys ≠ []) && ys.all privQ)
          · have hno : ¬ tagP l := fun h => by
              obtain ⟨l1, h1, h2⟩ := h
              rw [hR] at h1
              cases h1
              have := hend.1 h2
              rw [decide_eq_true this.1, this.2] at q2
              cases q2
            (conv => whnf)
            (repeat' (first
      | (refine Obl.mk ⟨by omega, by omega⟩ ?_; conv => whnf)
      | (refine Obl.mk ⟨by omega, by omega, ⟨by omega, by omega⟩⟩ ?_; conv => whnf)
      | ((with_reducible refine Tst.tt ?_); conv => whnf)
      | ((with_reducible refine Tst.ff ?_); conv => whnf)
      | ((with_reducible refine Tst.dec (fun _ => ?_) (fun _ => ?_)) <;> first | (exfalso; omega) | (conv => whnf))
      | ((with_reducible refine Tst.not ?_))
      | (refine Wit.conv ⟨by omega, by omega⟩ ?_; conv => whnf)
      | ((with_reducible refine IdxV.nat (by omega) ?_); conv => whnf)
      | ((with_reducible refine SameW.mk rfl ?_); conv => whnf)
      | (refine LoadV.mem (i := 0) (by assumption) rfl rfl ?_; conv => whnf)
      | (refine LoadV.mem (i := 1) (by assumption) rfl rfl ?_; conv => whnf)
      | (refine LoadV.mem (i := 2) (by assumption) rfl rfl ?_; conv => whnf)
      | ((with_reducible refine Tst.beqT ?_))
      | ((with_reducible refine Tst.beqF ?_))
      | (refine Tst.yes rfl ?_; conv => whnf)
      | (refine Tst.no rfl ?_; conv => whnf)))
            refine StoreA.mem (hm1.call h10.ext) (i := 0) rfl (Nat.le_refl 7) zero7 ?_
            intro w9 hm9
            (conv => whnf)
            refine res_any (R := fun v w' => TagV l v ∧ Ext w w') ?_
            (conv => whnf)
            refine LoadA.mem hm9 (i := 0) rfl rfl ?_
            (conv => whnf)
            exact ⟨⟨_, _, _, _, _, _, _, zero7, by rw [tagE_no hno]; rfl⟩, hm9.ext⟩
          · have hok : tagP l := by
              simp only [Bool.and_eq_true, decide_eq_true_eq] at q2
              exact ⟨_, hR, hend.2 q2⟩
            (conv => whnf)
            (repeat' (first
      | (refine Obl.mk ⟨by omega, by omega⟩ ?_; conv => whnf)
      | (refine Obl.mk ⟨by omega, by omega, ⟨by omega, by omega⟩⟩ ?_; conv => whnf)
      | ((with_reducible refine Tst.tt ?_); conv => whnf)
      | ((with_reducible refine Tst.ff ?_); conv => whnf)
      | ((with_reducible refine Tst.dec (fun _ => ?_) (fun _ => ?_)) <;> first | (exfalso; omega) | (conv => whnf))
      | ((with_reducible refine Tst.not ?_))
      | (refine Wit.conv ⟨by omega, by omega⟩ ?_; conv => whnf)
      | ((with_reducible refine IdxV.nat (by omega) ?_); conv => whnf)
      | ((with_reducible refine SameW.mk rfl ?_); conv => whnf)
      | (refine LoadV.mem (i := 0) (by assumption) rfl rfl ?_; conv => whnf)
      | (refine LoadV.mem (i := 1) (by assumption) rfl rfl ?_; conv => whnf)
      | (refine LoadV.mem (i := 2) (by assumption) rfl rfl ?_; conv => whnf)
      | ((with_reducible refine Tst.beqT ?_))
      | ((with_reducible refine Tst.beqF ?_))
      | (refine Tst.yes rfl ?_; conv => whnf)
      | (refine Tst.no rfl ?_; conv => whnf)))
            refine h10.ldA ?_
            intro s0 s1 s2 s3 A4 n4 c4 A5 n5 c5 s6 hone
            (conv => whnf)
            refine StoreA.mem (hm1.call h10.ext) (i := 0) rfl (Nat.le_refl 7) hone ?_
            intro w9 hm9
            (conv => whnf)
            refine res_any (R := fun v w' => TagV l v ∧ Ext w w') ?_
            (conv => whnf)
            refine LoadA.mem hm9 (i := 0) rfl rfl ?_
            (conv => whnf)
            exact ⟨⟨_, _, _, _, _, _, _, hone, by rw [tagE_ok hok]; rfl⟩, hm9.ext⟩
end Go.Proofs.YtajgbepghniciaaGreatDoor
