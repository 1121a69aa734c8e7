/- Lemmas and contracts of functions on the way to the law's card (part 10 of 17). -/
import Derived.Test.YtajgbepghniciaaGreatDoorJC9
namespace Go.Proofs.YtajgbepghniciaaGreatDoor
open Go.RowKit V
set_option maxRecDepth 100000

/-- the text's first byte, in small letters -/
def firstL (e : ByteArray) : ByteArray := lowS (e.extract 0 1)
def jnS (l : List ByteArray) : ByteArray := ⟨(jn l).toArray⟩
theorem jn_first {x : ByteArray} {l : List ByteArray} (hx : x.size = 1) : 1 ≤ (jnS (x :: l)).size ∧ firstL (jnS (x :: l)) = lowS x := by
  obtain ⟨⟨c⟩⟩ := x
  have hc : c.length = 1 := hx
  obtain ⟨b, rfl⟩ := List.length_eq_one_iff.1 hc
  refine ⟨by show 1 ≤ (jn _).toArray.size; simp [jn], ?_⟩
  unfold firstL
  congr 1
  have : (jnS (⟨⟨[b]⟩⟩ :: l)).extract 0 1 = (⟨⟨[b]⟩⟩ : ByteArray) := by
    have h := data_inj (l := [(jnS (⟨⟨[b]⟩⟩ :: l)).extract 0 1]) (m := [⟨⟨[b]⟩⟩]) (by rw [List.map_cons, ext_data]; simp [jnS, jn])
    simpa using h
  exact this
theorem upd_self {vals : Nat → Value} {k : Nat} {v : Value} (h : vals k = v) : vals = upd vals k v := by
  funext j
  by_cases e : j = k
  · subst e; rw [upd_same, h]
  · rw [upd_other _ _ _ _ e]
theorem RQ.cell5 {w0 w : World} {O : List Nat} {rb tb : Nat} {rest : List ByteArray} {a0 : ByteArray} {vs es : List ByteArray} {R2 : List (List Value × Value)} (h : RQ w0 w O rb tb rest a0 vs es R2) :
    ∃ A c, SlAt V.encS 1 w A es ∧ w.cell? ⟨tb, 5, none⟩ = some (.slice A es.length c) := by
  obtain ⟨A, c, X, Y, a1, a2, a3, a6, L, h⟩ := h
  obtain ⟨B, d, e⟩ := (h.rows.row 1 _ rfl).slice
  simp only [List.length_map] at e
  subst e
  exact ⟨B, d, RowB.sl (h.rows.row 1 _ rfl) h.mem, by rw [cell_heap (h.mem.get h.tg)]; rfl⟩
theorem extension_rq {w0 w : World} {O : List Nat} {rb tb : Nat} {x : ByteArray} {xs : List ByteArray} {a0 : ByteArray} {vs es : List ByteArray} (h : RQ w0 w O rb tb (x :: xs) a0 vs es []) (hx1 : x.size = 1) (hes : ∀ e ∈ es, 1 ≤ e.size) (hn : xs.length + es.length + 1 ≤ 1000000) :
    Gv Tryz.prog 274 [.pointer (some ⟨rb, 0, none⟩), .pointer (some ⟨tb, 0, none⟩)] w fun v w' => Ext w0 w' ∧
      (((xs.takeWhile extQ = [] ∨ ∃ e ∈ es, firstL e = lowS x) ∧ v = .bool false) ∨
       (¬ (xs.takeWhile extQ = [] ∨ ∃ e ∈ es, firstL e = lowS x) ∧ v = .bool true ∧ RQ w0 w' O rb tb (xs.dropWhile extQ) a0 vs (es ++ [jnS (x :: xs.takeWhile extQ)]) [])) := by
  refine gv (by kernel_rfl) Tryz.func274 rfl Tryz.ntmps274 rfl ?_; conv => whnf
  refine CallV.of (refNext_rq h) ?_
  rintro v w1 ⟨rfl, h1⟩
  (conv => whnf)
  refine NewV.rqrow h1 ?_
  intro nb w2 h2
  (conv => whnf)
  refine loopV (fun y : List ByteArray × List ByteArray × Option Addr × Nat => [(0, .pointer (some ⟨rb, 0, none⟩)), (1, .pointer (some ⟨tb, 0, none⟩)), (5, .slice y.2.2.1 (x :: y.1).length y.2.2.2)])
    (fun y w5 => RQ w0 w5 O rb tb y.2.1 a0 vs es [((x :: y.1).map Value.string, .slice y.2.2.1 (x :: y.1).length y.2.2.2)] ∧ xs = y.1 ++ y.2.1 ∧ y.1.all extQ = true)
    (fun y => y.2.1.length) ([], xs, some ⟨nb, 0, none⟩, 1) ⟨rfl, rfl, rfl, trivial⟩ ⟨h2, rfl, rfl⟩ ?_
  rintro ⟨pre, r5, B, d⟩ w5 ρ' ⟨h5, e5, a5⟩
  simp only at h5 e5 a5
  dsimp only
  have hlen : xs.length = pre.length + r5.length := by rw [e5]; simp
  have tk : ∀ ys, r5 = ys → (∀ y zs, ys = y :: zs → extQ y = false) → xs.takeWhile extQ = pre ∧ xs.dropWhile extQ = ys := by
    rintro ys rfl hys
    have ha := List.all_eq_true.1 a5
    rw [e5, List.takeWhile_append_of_pos ha, List.dropWhile_append_of_pos ha]
    cases r5 with
    | nil => simp
    | cons y zs => simp [hys y zs rfl]
  (conv => whnf)
  refine h5.ldr ?_
  intro A c hS hc
  rcases r5 with _ | ⟨y, ys⟩
  case' cons =>
    simp only [List.length_cons] at hc hlen ⊢
    (conv => whnf)
    refine Tst.yes (decide_eq_true (by omega)) ?_
    (conv => whnf)
    (repeat' (first
      | (refine Obl.mk ⟨by omega, by omega⟩ ?_; conv => whnf)
      | (refine Obl.mk ⟨by omega, by omega, ⟨by omega, by omega⟩⟩ ?_; conv => whnf)
      | ((with_reducible refine Tst.tt ?_); conv => whnf)
      | ((with_reducible refine Tst.ff ?_); conv => whnf)
      | ((with_reducible refine Tst.dec (fun _ => ?_) (fun _ => ?_)) <;> first | (exfalso; omega) | (conv => whnf))
      | ((with_reducible refine Tst.not ?_))
      | (refine Wit.conv ⟨by omega, by omega⟩ ?_; conv => whnf)
      | ((with_reducible refine IdxV.nat (by omega) ?_); conv => whnf)
      | ((with_reducible refine SameW.mk rfl ?_); conv => whnf)
      | (refine LoadV.mem (i := 0) (by assumption) rfl rfl ?_; conv => whnf)
      | (refine LoadV.mem (i := 1) (by assumption) rfl rfl ?_; conv => whnf)
      | (refine LoadV.mem (i := 2) (by assumption) rfl rfl ?_; conv => whnf)
      | ((with_reducible refine Tst.beqT ?_))
      | ((with_reducible refine Tst.beqF ?_))
      | (refine Tst.yes rfl ?_; conv => whnf)
      | (refine Tst.no rfl ?_; conv => whnf)))
    refine h5.ldr ?_
    intro A c hS hc
    (conv => whnf)
    (repeat' (first
      | (refine Obl.mk ⟨by omega, by omega⟩ ?_; conv => whnf)
      | (refine Obl.mk ⟨by omega, by omega, ⟨by omega, by omega⟩⟩ ?_; conv => whnf)
      | ((with_reducible refine Tst.tt ?_); conv => whnf)
      | ((with_reducible refine Tst.ff ?_); conv => whnf)
      | ((with_reducible refine Tst.dec (fun _ => ?_) (fun _ => ?_)) <;> first | (exfalso; omega) | (conv => whnf))
      | ((with_reducible refine Tst.not ?_))
      | (refine Wit.conv ⟨by omega, by omega⟩ ?_; conv => whnf)
      | ((with_reducible refine IdxV.nat (by omega) ?_); conv => whnf)
      | ((with_reducible refine SameW.mk rfl ?_); conv => whnf)
      | (refine LoadV.mem (i := 0) (by assumption) rfl rfl ?_; conv => whnf)
      | (refine LoadV.mem (i := 1) (by assumption) rfl rfl ?_; conv => whnf)
      | (refine LoadV.mem (i := 2) (by assumption) rfl rfl ?_; conv => whnf)
      | ((with_reducible refine Tst.beqT ?_))
      | ((with_reducible refine Tst.beqF ?_))
      | (refine Tst.yes rfl ?_; conv => whnf)
      | (refine Tst.no rfl ?_; conv => whnf)))
    refine ElemV.sl hS rfl 0 rfl (by simp) ?_
    intro b off hcl
    (conv => whnf)
    (repeat' (first
      | (refine Obl.mk ⟨by omega, by omega⟩ ?_; conv => whnf)
      | (refine Obl.mk ⟨by omega, by omega, ⟨by omega, by omega⟩⟩ ?_; conv => whnf)
      | ((with_reducible refine Tst.tt ?_); conv => whnf)
      | ((with_reducible refine Tst.ff ?_); conv => whnf)
      | ((with_reducible refine Tst.dec (fun _ => ?_) (fun _ => ?_)) <;> first | (exfalso; omega) | (conv => whnf))
      | ((with_reducible refine Tst.not ?_))
      | (refine Wit.conv ⟨by omega, by omega⟩ ?_; conv => whnf)
      | ((with_reducible refine IdxV.nat (by omega) ?_); conv => whnf)
      | ((with_reducible refine SameW.mk rfl ?_); conv => whnf)
      | (refine LoadV.mem (i := 0) (by assumption) rfl rfl ?_; conv => whnf)
      | (refine LoadV.mem (i := 1) (by assumption) rfl rfl ?_; conv => whnf)
      | (refine LoadV.mem (i := 2) (by assumption) rfl rfl ?_; conv => whnf)
      | ((with_reducible refine Tst.beqT ?_))
      | ((with_reducible refine Tst.beqF ?_))
      | (refine Tst.yes rfl ?_; conv => whnf)
      | (refine Tst.no rfl ?_; conv => whnf)))
    refine LoadV.cell0 hcl ?_
    (conv => whnf)
    (repeat' (first
      | (refine Obl.mk ⟨by omega, by omega⟩ ?_; conv => whnf)
      | (refine Obl.mk ⟨by omega, by omega, ⟨by omega, by omega⟩⟩ ?_; conv => whnf)
      | ((with_reducible refine Tst.tt ?_); conv => whnf)
      | ((with_reducible refine Tst.ff ?_); conv => whnf)
      | ((with_reducible refine Tst.dec (fun _ => ?_) (fun _ => ?_)) <;> first | (exfalso; omega) | (conv => whnf))
      | ((with_reducible refine Tst.not ?_))
      | (refine Wit.conv ⟨by omega, by omega⟩ ?_; conv => whnf)
      | ((with_reducible refine IdxV.nat (by omega) ?_); conv => whnf)
      | ((with_reducible refine SameW.mk rfl ?_); conv => whnf)
      | (refine LoadV.mem (i := 0) (by assumption) rfl rfl ?_; conv => whnf)
      | (refine LoadV.mem (i := 1) (by assumption) rfl rfl ?_; conv => whnf)
      | (refine LoadV.mem (i := 2) (by assumption) rfl rfl ?_; conv => whnf)
      | ((with_reducible refine Tst.beqT ?_))
      | ((with_reducible refine Tst.beqF ?_))
      | (refine Tst.yes rfl ?_; conv => whnf)
      | (refine Tst.no rfl ?_; conv => whnf)))
    have hy := h5.small y (List.mem_cons_self ..)
    refine CallV.of (both_any y 2 8 (by omega) w5) ?_
    rintro v w6 ⟨rfl, rfl⟩
    cases q : madeB y 2 8 false
    case' true =>
      (conv => whnf)
      (repeat' (first
      | (refine Obl.mk ⟨by omega, by omega⟩ ?_; conv => whnf)
      | (refine Obl.mk ⟨by omega, by omega, ⟨by omega, by omega⟩⟩ ?_; conv => whnf)
      | ((with_reducible refine Tst.tt ?_); conv => whnf)
      | ((with_reducible refine Tst.ff ?_); conv => whnf)
      | ((with_reducible refine Tst.dec (fun _ => ?_) (fun _ => ?_)) <;> first | (exfalso; omega) | (conv => whnf))
      | ((with_reducible refine Tst.not ?_))
      | (refine Wit.conv ⟨by omega, by omega⟩ ?_; conv => whnf)
      | ((with_reducible refine IdxV.nat (by omega) ?_); conv => whnf)
      | ((with_reducible refine SameW.mk rfl ?_); conv => whnf)
      | (refine LoadV.mem (i := 0) (by assumption) rfl rfl ?_; conv => whnf)
      | (refine LoadV.mem (i := 1) (by assumption) rfl rfl ?_; conv => whnf)
      | (refine LoadV.mem (i := 2) (by assumption) rfl rfl ?_; conv => whnf)
      | ((with_reducible refine Tst.beqT ?_))
      | ((with_reducible refine Tst.beqF ?_))
      | (refine Tst.yes rfl ?_; conv => whnf)
      | (refine Tst.no rfl ?_; conv => whnf)))
      refine CallV.of (refNext_rq h5) ?_
      rintro v w7 ⟨rfl, h7⟩
      (conv => whnf)
      refine NewV.rq h7 ?_
      intro nb w8 h8 hnb
      (conv => whnf)
      refine h8.appL hnb (by simp; omega) ?_
      intro B' d' w9 h9
      (conv => whnf)
      (repeat' (first
      | (refine Obl.mk ⟨by omega, by omega⟩ ?_; conv => whnf)
      | (refine Obl.mk ⟨by omega, by omega, ⟨by omega, by omega⟩⟩ ?_; conv => whnf)
      | ((with_reducible refine Tst.tt ?_); conv => whnf)
      | ((with_reducible refine Tst.ff ?_); conv => whnf)
      | ((with_reducible refine Tst.dec (fun _ => ?_) (fun _ => ?_)) <;> first | (exfalso; omega) | (conv => whnf))
      | ((with_reducible refine Tst.not ?_))
      | (refine Wit.conv ⟨by omega, by omega⟩ ?_; conv => whnf)
      | ((with_reducible refine IdxV.nat (by omega) ?_); conv => whnf)
      | ((with_reducible refine SameW.mk rfl ?_); conv => whnf)
      | (refine LoadV.mem (i := 0) (by assumption) rfl rfl ?_; conv => whnf)
      | (refine LoadV.mem (i := 1) (by assumption) rfl rfl ?_; conv => whnf)
      | (refine LoadV.mem (i := 2) (by assumption) rfl rfl ?_; conv => whnf)
      | ((with_reducible refine Tst.beqT ?_))
      | ((with_reducible refine Tst.beqF ?_))
      | (refine Tst.yes rfl ?_; conv => whnf)
      | (refine Tst.no rfl ?_; conv => whnf)))
      exact ⟨(pre ++ [y], ys, B', d'), ⟨rfl, rfl, by simp only [List.length_append, List.length_cons]; rfl, trivial⟩, ⟨h9, by rw [e5]; simp, by rw [List.all_append, a5]; simp [extQ, q]⟩, by simp⟩
    case' false =>
      obtain ⟨t1, t2⟩ := tk _ rfl (fun y' zs e => by cases e; exact q)
      clear hy
      obtain ⟨r6, h5, t2⟩ : ∃ r6, RQ w0 _ O rb tb r6 a0 vs es [((x :: pre).map Value.string, .slice B (x :: pre).length d)] ∧ xs.dropWhile extQ = r6 := ⟨_, h5, t2⟩
      rw [t1, t2]
      clear tk hS hcl q
      (conv => whnf)
      (repeat' (first
      | (refine Obl.mk ⟨by omega, by omega⟩ ?_; conv => whnf)
      | (refine Obl.mk ⟨by omega, by omega, ⟨by omega, by omega⟩⟩ ?_; conv => whnf)
      | ((with_reducible refine Tst.tt ?_); conv => whnf)
      | ((with_reducible refine Tst.ff ?_); conv => whnf)
      | ((with_reducible refine Tst.dec (fun _ => ?_) (fun _ => ?_)) <;> first | (exfalso; omega) | (conv => whnf))
      | ((with_reducible refine Tst.not ?_))
      | (refine Wit.conv ⟨by omega, by omega⟩ ?_; conv => whnf)
      | ((with_reducible refine IdxV.nat (by omega) ?_); conv => whnf)
      | ((with_reducible refine SameW.mk rfl ?_); conv => whnf)
      | (refine LoadV.mem (i := 0) (by assumption) rfl rfl ?_; conv => whnf)
      | (refine LoadV.mem (i := 1) (by assumption) rfl rfl ?_; conv => whnf)
      | (refine LoadV.mem (i := 2) (by assumption) rfl rfl ?_; conv => whnf)
      | ((with_reducible refine Tst.beqT ?_))
      | ((with_reducible refine Tst.beqF ?_))
      | (refine Tst.yes rfl ?_; conv => whnf)
      | (refine Tst.no rfl ?_; conv => whnf)))
  case' nil =>
    (conv => whnf)
    refine Tst.no (decide_eq_false (by simp)) ?_
    (conv => whnf)
    (repeat' (first
      | (refine Obl.mk ⟨by omega, by omega⟩ ?_; conv => whnf)
      | (refine Obl.mk ⟨by omega, by omega, ⟨by omega, by omega⟩⟩ ?_; conv => whnf)
      | ((with_reducible refine Tst.tt ?_); conv => whnf)
      | ((with_reducible refine Tst.ff ?_); conv => whnf)
      | ((with_reducible refine Tst.dec (fun _ => ?_) (fun _ => ?_)) <;> first | (exfalso; omega) | (conv => whnf))
      | ((with_reducible refine Tst.not ?_))
      | (refine Wit.conv ⟨by omega, by omega⟩ ?_; conv => whnf)
      | ((with_reducible refine IdxV.nat (by omega) ?_); conv => whnf)
      | ((with_reducible refine SameW.mk rfl ?_); conv => whnf)
      | (refine LoadV.mem (i := 0) (by assumption) rfl rfl ?_; conv => whnf)
      | (refine LoadV.mem (i := 1) (by assumption) rfl rfl ?_; conv => whnf)
      | (refine LoadV.mem (i := 2) (by assumption) rfl rfl ?_; conv => whnf)
      | ((with_reducible refine Tst.beqT ?_))
      | ((with_reducible refine Tst.beqF ?_))
      | (refine Tst.yes rfl ?_; conv => whnf)
      | (refine Tst.no rfl ?_; conv => whnf)))
    obtain ⟨t1, t2⟩ := tk _ rfl (fun y' zs e => by cases e)
    obtain ⟨r6, h5, t2⟩ : ∃ r6, RQ w0 _ O rb tb r6 a0 vs es [((x :: pre).map Value.string, .slice B (x :: pre).length d)] ∧ xs.dropWhile extQ = r6 := ⟨_, h5, t2⟩
    rw [t1, t2]
    clear tk hS
  all_goals
    have hx0 := h.small x (List.mem_cons_self ..)
    have hpl : pre.length ≤ xs.length := by omega
    have hl0 : (x :: pre).length = pre.length + 1 := rfl
    refine loopV (fun i : Nat => [(0, .pointer (some ⟨rb, 0, none⟩)), (1, .pointer (some ⟨tb, 0, none⟩)), (5, .slice B (x :: pre).length d), (7, .int .i64 i)])
      (fun i w6 => RQ w0 w6 O rb tb r6 a0 vs es [((x :: pre).map Value.string, .slice B (x :: pre).length d)] ∧ i ≤ es.length ∧ ∀ (j : Nat) (hj : j < es.length), j < i → firstL es[j] ≠ lowS x)
      (fun i => es.length - i) 0 ⟨rfl, rfl, rfl, rfl, trivial⟩ ⟨h5, by omega, fun j hj h0 => by omega⟩ ?_
    rintro i w6 ρ' ⟨h6, hi, hd⟩
    (conv => whnf)
    obtain ⟨EA, ec, hES, hc5⟩ := h6.cell5
    refine LoadV.of hc5 ?_
    (conv => whnf)
    (repeat' (first
      | (refine Obl.mk ⟨by omega, by omega⟩ ?_; conv => whnf)
      | (refine Obl.mk ⟨by omega, by omega, ⟨by omega, by omega⟩⟩ ?_; conv => whnf)
      | ((with_reducible refine Tst.tt ?_); conv => whnf)
      | ((with_reducible refine Tst.ff ?_); conv => whnf)
      | ((with_reducible refine Tst.dec (fun _ => ?_) (fun _ => ?_)) <;> first | (exfalso; omega) | (conv => whnf))
      | ((with_reducible refine Tst.not ?_))
      | (refine Wit.conv ⟨by omega, by omega⟩ ?_; conv => whnf)
      | ((with_reducible refine IdxV.nat (by omega) ?_); conv => whnf)
      | ((with_reducible refine SameW.mk rfl ?_); conv => whnf)
      | (refine LoadV.mem (i := 0) (by assumption) rfl rfl ?_; conv => whnf)
      | (refine LoadV.mem (i := 1) (by assumption) rfl rfl ?_; conv => whnf)
      | (refine LoadV.mem (i := 2) (by assumption) rfl rfl ?_; conv => whnf)
      | ((with_reducible refine Tst.beqT ?_))
      | ((with_reducible refine Tst.beqF ?_))
      | (refine Tst.yes rfl ?_; conv => whnf)
      | (refine Tst.no rfl ?_; conv => whnf)))
    · have hil : i < es.length := by omega
      have hei := hes _ (List.getElem_mem hil)
      obtain ⟨eb, eoff, rfl, hec⟩ := hES.at_ (fun e => by rw [e] at hil; simp at hil)
      have hec := hec i _ (List.getElem?_eq_getElem hil)
      obtain ⟨lb, loff, e9, hlc⟩ := h6.rowL.at_ (by simp)
      subst e9
      have hlc := hlc 0 x rfl
      refine DrawV.free rfl (by kernel_rfl) ?_
      (conv => whnf)
      (apply StepD.still; (· intro wd hd; (conv => whnf); (repeat (intro _ _; (conv => whnf))); (first | exact ⟨Ext.refl _, rfl⟩ | ((repeat' (first | (refine Obl.mk ⟨by omega, by omega⟩ ?_; conv => whnf) | (refine Obl.mk ⟨by omega, by omega, ⟨by omega, by omega⟩⟩ ?_; conv => whnf) | ((with_reducible refine Tst.tt ?_); conv => whnf) | ((with_reducible refine Tst.ff ?_); conv => whnf) | ((with_reducible refine Tst.dec (fun _ => ?_) (fun _ => ?_)) <;> first | (exfalso; omega) | (conv => whnf)) | ((with_reducible refine Tst.not ?_)) | (refine Wit.conv ⟨by omega, by omega⟩ ?_; conv => whnf) | ((with_reducible refine IdxV.nat (by omega) ?_); conv => whnf) | ((with_reducible refine SameW.mk rfl ?_); conv => whnf) | ((with_reducible refine Tst.beqT ?_)) | ((with_reducible refine Tst.beqF ?_)) | (refine Tst.yes rfl ?_; conv => whnf) | (refine Tst.no rfl ?_; conv => whnf))); exact ⟨Ext.refl _, rfl⟩))); (conv => whnf))
      (apply StepD.still; (· intro wd hd; (conv => whnf); (repeat (intro _ _; (conv => whnf))); (first | exact ⟨Ext.refl _, rfl⟩ | ((repeat' (first | (refine Obl.mk ⟨by omega, by omega⟩ ?_; conv => whnf) | (refine Obl.mk ⟨by omega, by omega, ⟨by omega, by omega⟩⟩ ?_; conv => whnf) | ((with_reducible refine Tst.tt ?_); conv => whnf) | ((with_reducible refine Tst.ff ?_); conv => whnf) | ((with_reducible refine Tst.dec (fun _ => ?_) (fun _ => ?_)) <;> first | (exfalso; omega) | (conv => whnf)) | ((with_reducible refine Tst.not ?_)) | (refine Wit.conv ⟨by omega, by omega⟩ ?_; conv => whnf) | ((with_reducible refine IdxV.nat (by omega) ?_); conv => whnf) | ((with_reducible refine SameW.mk rfl ?_); conv => whnf) | ((with_reducible refine Tst.beqT ?_)) | ((with_reducible refine Tst.beqF ?_)) | (refine Tst.yes rfl ?_; conv => whnf) | (refine Tst.no rfl ?_; conv => whnf))); exact ⟨Ext.refl _, rfl⟩))); (conv => whnf))
      (apply StepD.still; (· intro wd hd; (conv => whnf); (repeat (intro _ _; (conv => whnf))); (first | exact ⟨Ext.refl _, rfl⟩ | ((repeat' (first | (refine Obl.mk ⟨by omega, by omega⟩ ?_; conv => whnf) | (refine Obl.mk ⟨by omega, by omega, ⟨by omega, by omega⟩⟩ ?_; conv => whnf) | ((with_reducible refine Tst.tt ?_); conv => whnf) | ((with_reducible refine Tst.ff ?_); conv => whnf) | ((with_reducible refine Tst.dec (fun _ => ?_) (fun _ => ?_)) <;> first | (exfalso; omega) | (conv => whnf)) | ((with_reducible refine Tst.not ?_)) | (refine Wit.conv ⟨by omega, by omega⟩ ?_; conv => whnf) | ((with_reducible refine IdxV.nat (by omega) ?_); conv => whnf) | ((with_reducible refine SameW.mk rfl ?_); conv => whnf) | ((with_reducible refine Tst.beqT ?_)) | ((with_reducible refine Tst.beqF ?_)) | (refine Tst.yes rfl ?_; conv => whnf) | (refine Tst.no rfl ?_; conv => whnf))); exact ⟨Ext.refl _, rfl⟩))); (conv => whnf))
      (apply StepD.still; (· intro wd hd; (conv => whnf); (repeat' (first | (refine Obl.mk ⟨by omega, by omega⟩ ?_; conv => whnf) | (refine Obl.mk ⟨by omega, by omega, ⟨by omega, by omega⟩⟩ ?_; conv => whnf) | ((with_reducible refine Tst.tt ?_); conv => whnf) | ((with_reducible refine Tst.ff ?_); conv => whnf) | ((with_reducible refine Tst.dec (fun _ => ?_) (fun _ => ?_)) <;> first | (exfalso; omega) | (conv => whnf)) | ((with_reducible refine Tst.not ?_)) | (refine Wit.conv ⟨by omega, by omega⟩ ?_; conv => whnf) | ((with_reducible refine IdxV.nat (by omega) ?_); conv => whnf) | ((with_reducible refine SameW.mk rfl ?_); conv => whnf) | ((with_reducible refine Tst.beqT ?_)) | ((with_reducible refine Tst.beqF ?_)) | (refine Tst.yes rfl ?_; conv => whnf) | (refine Tst.no rfl ?_; conv => whnf))); refine LoadV.of (Ext.cell (Ext.trans (Ext.drew (Ext.refl _)) hd) hc5) ?_; (conv => whnf); exact ⟨Ext.refl _, rfl⟩); (conv => whnf))
      (apply StepD.still; (· intro wd hd; (conv => whnf); (repeat (intro _ _; (conv => whnf))); (first | exact ⟨Ext.refl _, rfl⟩ | ((repeat' (first | (refine Obl.mk ⟨by omega, by omega⟩ ?_; conv => whnf) | (refine Obl.mk ⟨by omega, by omega, ⟨by omega, by omega⟩⟩ ?_; conv => whnf) | ((with_reducible refine Tst.tt ?_); conv => whnf) | ((with_reducible refine Tst.ff ?_); conv => whnf) | ((with_reducible refine Tst.dec (fun _ => ?_) (fun _ => ?_)) <;> first | (exfalso; omega) | (conv => whnf)) | ((with_reducible refine Tst.not ?_)) | (refine Wit.conv ⟨by omega, by omega⟩ ?_; conv => whnf) | ((with_reducible refine IdxV.nat (by omega) ?_); conv => whnf) | ((with_reducible refine SameW.mk rfl ?_); conv => whnf) | ((with_reducible refine Tst.beqT ?_)) | ((with_reducible refine Tst.beqF ?_)) | (refine Tst.yes rfl ?_; conv => whnf) | (refine Tst.no rfl ?_; conv => whnf))); exact ⟨Ext.refl _, rfl⟩))); (conv => whnf))
      (apply StepD.still; (· intro wd hd; (conv => whnf); (repeat' (first | (refine Obl.mk ⟨by omega, by omega⟩ ?_; conv => whnf) | (refine Obl.mk ⟨by omega, by omega, ⟨by omega, by omega⟩⟩ ?_; conv => whnf) | ((with_reducible refine Tst.tt ?_); conv => whnf) | ((with_reducible refine Tst.ff ?_); conv => whnf) | ((with_reducible refine Tst.dec (fun _ => ?_) (fun _ => ?_)) <;> first | (exfalso; omega) | (conv => whnf)) | ((with_reducible refine Tst.not ?_)) | (refine Wit.conv ⟨by omega, by omega⟩ ?_; conv => whnf) | ((with_reducible refine IdxV.nat (by omega) ?_); conv => whnf) | ((with_reducible refine SameW.mk rfl ?_); conv => whnf) | ((with_reducible refine Tst.beqT ?_)) | ((with_reducible refine Tst.beqF ?_)) | (refine Tst.yes rfl ?_; conv => whnf) | (refine Tst.no rfl ?_; conv => whnf))); refine ⟨⟨eb, eoff, i, rfl, by omega, by omega, ?_⟩⟩; exact ⟨Ext.refl _, rfl⟩); (conv => whnf))
      (apply StepD.still; (· intro wd hd; (conv => whnf); (repeat' (first | (refine Obl.mk ⟨by omega, by omega⟩ ?_; conv => whnf) | (refine Obl.mk ⟨by omega, by omega, ⟨by omega, by omega⟩⟩ ?_; conv => whnf) | ((with_reducible refine Tst.tt ?_); conv => whnf) | ((with_reducible refine Tst.ff ?_); conv => whnf) | ((with_reducible refine Tst.dec (fun _ => ?_) (fun _ => ?_)) <;> first | (exfalso; omega) | (conv => whnf)) | ((with_reducible refine Tst.not ?_)) | (refine Wit.conv ⟨by omega, by omega⟩ ?_; conv => whnf) | ((with_reducible refine IdxV.nat (by omega) ?_); conv => whnf) | ((with_reducible refine SameW.mk rfl ?_); conv => whnf) | ((with_reducible refine Tst.beqT ?_)) | ((with_reducible refine Tst.beqF ?_)) | (refine Tst.yes rfl ?_; conv => whnf) | (refine Tst.no rfl ?_; conv => whnf))); refine LoadV.of (Ext.cell (Ext.trans (Ext.drew (Ext.refl _)) hd) (hec 0 _ rfl)) ?_; (conv => whnf); exact ⟨Ext.refl _, rfl⟩); (conv => whnf))
      apply StepD.still (.string (es[i].extract 0 1))
      · intro wd hd
        (conv => whnf)
        refine ⟨0, 1, rfl, rfl, by omega, by omega, ?_⟩
        (conv => whnf)
        exact ⟨Ext.refl _, rfl⟩
      (conv => whnf)
      apply StepD.still (.string (firstL es[i]))
      · intro wd hd
        (conv => whnf)
        refine CallV.of (refLower_any (es[i].extract 0 1) (by rw [ByteArray.size_extract]; omega) wd) ?_
        rintro v w7 ⟨rfl, he7⟩
        exact ⟨he7, rfl⟩
      (conv => whnf)
      (apply StepD.still; (· intro wd hd; (conv => whnf); (repeat (intro _ _; (conv => whnf))); (first | exact ⟨Ext.refl _, rfl⟩ | ((repeat' (first | (refine Obl.mk ⟨by omega, by omega⟩ ?_; conv => whnf) | (refine Obl.mk ⟨by omega, by omega, ⟨by omega, by omega⟩⟩ ?_; conv => whnf) | ((with_reducible refine Tst.tt ?_); conv => whnf) | ((with_reducible refine Tst.ff ?_); conv => whnf) | ((with_reducible refine Tst.dec (fun _ => ?_) (fun _ => ?_)) <;> first | (exfalso; omega) | (conv => whnf)) | ((with_reducible refine Tst.not ?_)) | (refine Wit.conv ⟨by omega, by omega⟩ ?_; conv => whnf) | ((with_reducible refine IdxV.nat (by omega) ?_); conv => whnf) | ((with_reducible refine SameW.mk rfl ?_); conv => whnf) | ((with_reducible refine Tst.beqT ?_)) | ((with_reducible refine Tst.beqF ?_)) | (refine Tst.yes rfl ?_; conv => whnf) | (refine Tst.no rfl ?_; conv => whnf))); exact ⟨Ext.refl _, rfl⟩))); (conv => whnf))
      (apply StepD.still; (· intro wd hd; (conv => whnf); (repeat' (first | (refine Obl.mk ⟨by omega, by omega⟩ ?_; conv => whnf) | (refine Obl.mk ⟨by omega, by omega, ⟨by omega, by omega⟩⟩ ?_; conv => whnf) | ((with_reducible refine Tst.tt ?_); conv => whnf) | ((with_reducible refine Tst.ff ?_); conv => whnf) | ((with_reducible refine Tst.dec (fun _ => ?_) (fun _ => ?_)) <;> first | (exfalso; omega) | (conv => whnf)) | ((with_reducible refine Tst.not ?_)) | (refine Wit.conv ⟨by omega, by omega⟩ ?_; conv => whnf) | ((with_reducible refine IdxV.nat (by omega) ?_); conv => whnf) | ((with_reducible refine SameW.mk rfl ?_); conv => whnf) | ((with_reducible refine Tst.beqT ?_)) | ((with_reducible refine Tst.beqF ?_)) | (refine Tst.yes rfl ?_; conv => whnf) | (refine Tst.no rfl ?_; conv => whnf))); refine ⟨⟨lb, loff, 0, rfl, by omega, by omega, ?_⟩⟩; exact ⟨Ext.refl _, rfl⟩); (conv => whnf))
      (apply StepD.still; (· intro wd hd; (conv => whnf); (repeat' (first | (refine Obl.mk ⟨by omega, by omega⟩ ?_; conv => whnf) | (refine Obl.mk ⟨by omega, by omega, ⟨by omega, by omega⟩⟩ ?_; conv => whnf) | ((with_reducible refine Tst.tt ?_); conv => whnf) | ((with_reducible refine Tst.ff ?_); conv => whnf) | ((with_reducible refine Tst.dec (fun _ => ?_) (fun _ => ?_)) <;> first | (exfalso; omega) | (conv => whnf)) | ((with_reducible refine Tst.not ?_)) | (refine Wit.conv ⟨by omega, by omega⟩ ?_; conv => whnf) | ((with_reducible refine IdxV.nat (by omega) ?_); conv => whnf) | ((with_reducible refine SameW.mk rfl ?_); conv => whnf) | ((with_reducible refine Tst.beqT ?_)) | ((with_reducible refine Tst.beqF ?_)) | (refine Tst.yes rfl ?_; conv => whnf) | (refine Tst.no rfl ?_; conv => whnf))); refine LoadV.of (Ext.cell (Ext.trans (Ext.drew (Ext.refl _)) hd) (hlc 0 _ rfl)) ?_; (conv => whnf); exact ⟨Ext.refl _, rfl⟩); (conv => whnf))
      apply StepD.still (.string (lowS x))
      · intro wd hd
        (conv => whnf)
        refine CallV.of (refLower_any x (by omega) wd) ?_
        rintro v w7 ⟨rfl, he7⟩
        exact ⟨he7, rfl⟩
      (conv => whnf)
      (apply StepD.still; (· intro wd hd; (conv => whnf); (repeat (intro _ _; (conv => whnf))); (first | exact ⟨Ext.refl _, rfl⟩ | ((repeat' (first | (refine Obl.mk ⟨by omega, by omega⟩ ?_; conv => whnf) | (refine Obl.mk ⟨by omega, by omega, ⟨by omega, by omega⟩⟩ ?_; conv => whnf) | ((with_reducible refine Tst.tt ?_); conv => whnf) | ((with_reducible refine Tst.ff ?_); conv => whnf) | ((with_reducible refine Tst.dec (fun _ => ?_) (fun _ => ?_)) <;> first | (exfalso; omega) | (conv => whnf)) | ((with_reducible refine Tst.not ?_)) | (refine Wit.conv ⟨by omega, by omega⟩ ?_; conv => whnf) | ((with_reducible refine IdxV.nat (by omega) ?_); conv => whnf) | ((with_reducible refine SameW.mk rfl ?_); conv => whnf) | ((with_reducible refine Tst.beqT ?_)) | ((with_reducible refine Tst.beqF ?_)) | (refine Tst.yes rfl ?_; conv => whnf) | (refine Tst.no rfl ?_; conv => whnf))); exact ⟨Ext.refl _, rfl⟩))); (conv => whnf))
      intro wd hwd
      have h7 := h6.drew.call hwd
      (conv => whnf)
      cases q : seq (firstL es[i]) (lowS x)
      · (conv => whnf)
        (repeat' (first
      | (refine Obl.mk ⟨by omega, by omega⟩ ?_; conv => whnf)
      | (refine Obl.mk ⟨by omega, by omega, ⟨by omega, by omega⟩⟩ ?_; conv => whnf)
      | ((with_reducible refine Tst.tt ?_); conv => whnf)
      | ((with_reducible refine Tst.ff ?_); conv => whnf)
      | ((with_reducible refine Tst.dec (fun _ => ?_) (fun _ => ?_)) <;> first | (exfalso; omega) | (conv => whnf))
      | ((with_reducible refine Tst.not ?_))
      | (refine Wit.conv ⟨by omega, by omega⟩ ?_; conv => whnf)
      | ((with_reducible refine IdxV.nat (by omega) ?_); conv => whnf)
      | ((with_reducible refine SameW.mk rfl ?_); conv => whnf)
      | (refine LoadV.mem (i := 0) (by assumption) rfl rfl ?_; conv => whnf)
      | (refine LoadV.mem (i := 1) (by assumption) rfl rfl ?_; conv => whnf)
      | (refine LoadV.mem (i := 2) (by assumption) rfl rfl ?_; conv => whnf)
      | ((with_reducible refine Tst.beqT ?_))
      | ((with_reducible refine Tst.beqF ?_))
      | (refine Tst.yes rfl ?_; conv => whnf)
      | (refine Tst.no rfl ?_; conv => whnf)))
        refine ⟨i + 1, ⟨rfl, rfl, rfl, rfl, trivial⟩, ⟨h7, by omega, fun j hj hji => ?_⟩, by omega⟩
        by_cases e : j = i
        · subst e
          intro e'
          rw [seq_iff.2 e'] at q; cases q
        · exact hd j hj (by omega)
      · (conv => whnf)
        (repeat' (first
      | (refine Obl.mk ⟨by omega, by omega⟩ ?_; conv => whnf)
      | (refine Obl.mk ⟨by omega, by omega, ⟨by omega, by omega⟩⟩ ?_; conv => whnf)
      | ((with_reducible refine Tst.tt ?_); conv => whnf)
      | ((with_reducible refine Tst.ff ?_); conv => whnf)
      | ((with_reducible refine Tst.dec (fun _ => ?_) (fun _ => ?_)) <;> first | (exfalso; omega) | (conv => whnf))
      | ((with_reducible refine Tst.not ?_))
      | (refine Wit.conv ⟨by omega, by omega⟩ ?_; conv => whnf)
      | ((with_reducible refine IdxV.nat (by omega) ?_); conv => whnf)
      | ((with_reducible refine SameW.mk rfl ?_); conv => whnf)
      | (refine LoadV.mem (i := 0) (by assumption) rfl rfl ?_; conv => whnf)
      | (refine LoadV.mem (i := 1) (by assumption) rfl rfl ?_; conv => whnf)
      | (refine LoadV.mem (i := 2) (by assumption) rfl rfl ?_; conv => whnf)
      | ((with_reducible refine Tst.beqT ?_))
      | ((with_reducible refine Tst.beqF ?_))
      | (refine Tst.yes rfl ?_; conv => whnf)
      | (refine Tst.no rfl ?_; conv => whnf)))
        exact ⟨h7.ext, .inl ⟨.inr ⟨_, List.getElem_mem hil, seq_iff.1 q⟩, rfl⟩⟩
    · have hno : ¬ ∃ e ∈ es, firstL e = lowS x := by
        rintro ⟨e, he, h9⟩
        obtain ⟨j, hj, rfl⟩ := List.mem_iff_getElem.1 he
        exact hd j hj (by omega) h9
      obtain ⟨A, c, X, Y, a1, a2, a3, a6, L, h6⟩ := h6
      obtain ⟨EA, ec, e⟩ := (h6.rows.row 1 _ rfl).slice
      simp only [List.length_map] at e
      subst e
      clear hES hc5
      obtain ⟨J, hJ⟩ : ∃ J, J = jnS (x :: pre) := ⟨_, rfl⟩
      obtain ⟨rr, hrr⟩ : ∃ rr : List (List Value × Value), rr = [((x :: pre).map Value.string, .slice B (x :: pre).length d)] := ⟨_, rfl⟩
      have hsz : ∀ z ∈ x :: pre, z.size ≤ 1000000 := fun z hz => by
        rcases List.mem_cons.1 hz with rfl | hz
        · exact hx0
        · exact h.small z (List.mem_cons_of_mem _ (by rw [e5]; exact List.mem_append_left _ hz))
      rw [← hrr] at h6
      rw [← hJ]
      refine DrawV.gen (fun S vals w => bif S 11 then (S 4 = true ∧ S 6 = true ∧ S 7 = true ∧ S 8 = true ∧ RQ w0 w O rb tb r6 a0 vs (es ++ [J]) rr)
        else bif S 8 then (S 4 = true ∧ S 6 = true ∧ S 7 = true ∧ ∃ B' d' L', vals 8 = .slice B' (es.length + 1) d' ∧ RQ0 w0 w O rb tb r6 a0 vs (es ++ [J]) A c X (.slice B' (es.length + 1) d') X (.slice EA es.length ec) a1 a2 a3 a6 L' rr)
        else bif S 7 then (S 6 = true ∧ ∃ nb, vals 7 = .slice (some ⟨nb, 0, none⟩) 1 1 ∧ w.heap[nb]? = some (.cells #[.string J] 9 (0, 0)) ∧ RQ0 w0 w O rb tb r6 a0 vs es A c X (.slice EA es.length ec) X (.slice EA es.length ec) a1 a2 a3 a6 L rr)
        else RQ0 w0 w O rb tb r6 a0 vs es A c X (.slice EA es.length ec) X (.slice EA es.length ec) a1 a2 a3 a6 L rr) rfl (by kernel_rfl) (fun vals => h6.call (Ext.refl _).drew) ?_
      (conv => whnf)
      (apply StepG.of; (· intro S vals wd hk hp hI; (conv => whnf); (first | exact ⟨rfl, hI⟩ | ((repeat' (first | (refine Obl.mk ⟨by omega, by omega⟩ ?_; conv => whnf) | (refine Obl.mk ⟨by omega, by omega, ⟨by omega, by omega⟩⟩ ?_; conv => whnf) | ((with_reducible refine Tst.tt ?_); conv => whnf) | ((with_reducible refine Tst.ff ?_); conv => whnf) | ((with_reducible refine Tst.dec (fun _ => ?_) (fun _ => ?_)) <;> first | (exfalso; omega) | (conv => whnf)) | ((with_reducible refine Tst.not ?_)) | (refine Wit.conv ⟨by omega, by omega⟩ ?_; conv => whnf) | ((with_reducible refine IdxV.nat (by omega) ?_); conv => whnf) | ((with_reducible refine SameW.mk rfl ?_); conv => whnf) | ((with_reducible refine Tst.beqT ?_)) | ((with_reducible refine Tst.beqF ?_)) | (refine Tst.yes rfl ?_; conv => whnf) | (refine Tst.no rfl ?_; conv => whnf))); exact ⟨rfl, hI⟩))); (conv => whnf))
      (apply StepG.of; (· intro S vals wd hk hp hI; (conv => whnf); (first | exact ⟨rfl, hI⟩ | ((repeat' (first | (refine Obl.mk ⟨by omega, by omega⟩ ?_; conv => whnf) | (refine Obl.mk ⟨by omega, by omega, ⟨by omega, by omega⟩⟩ ?_; conv => whnf) | ((with_reducible refine Tst.tt ?_); conv => whnf) | ((with_reducible refine Tst.ff ?_); conv => whnf) | ((with_reducible refine Tst.dec (fun _ => ?_) (fun _ => ?_)) <;> first | (exfalso; omega) | (conv => whnf)) | ((with_reducible refine Tst.not ?_)) | (refine Wit.conv ⟨by omega, by omega⟩ ?_; conv => whnf) | ((with_reducible refine IdxV.nat (by omega) ?_); conv => whnf) | ((with_reducible refine SameW.mk rfl ?_); conv => whnf) | ((with_reducible refine Tst.beqT ?_)) | ((with_reducible refine Tst.beqF ?_)) | (refine Tst.yes rfl ?_; conv => whnf) | (refine Tst.no rfl ?_; conv => whnf))); exact ⟨rfl, hI⟩))); (conv => whnf))
      (apply StepG.of; (· intro S vals wd hk hp hI; (conv => whnf); (first | exact ⟨rfl, hI⟩ | ((repeat' (first | (refine Obl.mk ⟨by omega, by omega⟩ ?_; conv => whnf) | (refine Obl.mk ⟨by omega, by omega, ⟨by omega, by omega⟩⟩ ?_; conv => whnf) | ((with_reducible refine Tst.tt ?_); conv => whnf) | ((with_reducible refine Tst.ff ?_); conv => whnf) | ((with_reducible refine Tst.dec (fun _ => ?_) (fun _ => ?_)) <;> first | (exfalso; omega) | (conv => whnf)) | ((with_reducible refine Tst.not ?_)) | (refine Wit.conv ⟨by omega, by omega⟩ ?_; conv => whnf) | ((with_reducible refine IdxV.nat (by omega) ?_); conv => whnf) | ((with_reducible refine SameW.mk rfl ?_); conv => whnf) | ((with_reducible refine Tst.beqT ?_)) | ((with_reducible refine Tst.beqF ?_)) | (refine Tst.yes rfl ?_; conv => whnf) | (refine Tst.no rfl ?_; conv => whnf))); exact ⟨rfl, hI⟩))); (conv => whnf))
      (apply StepG.of; (· intro S vals wd hk hp hI; (conv => whnf); (first | exact ⟨rfl, hI⟩ | ((repeat' (first | (refine Obl.mk ⟨by omega, by omega⟩ ?_; conv => whnf) | (refine Obl.mk ⟨by omega, by omega, ⟨by omega, by omega⟩⟩ ?_; conv => whnf) | ((with_reducible refine Tst.tt ?_); conv => whnf) | ((with_reducible refine Tst.ff ?_); conv => whnf) | ((with_reducible refine Tst.dec (fun _ => ?_) (fun _ => ?_)) <;> first | (exfalso; omega) | (conv => whnf)) | ((with_reducible refine Tst.not ?_)) | (refine Wit.conv ⟨by omega, by omega⟩ ?_; conv => whnf) | ((with_reducible refine IdxV.nat (by omega) ?_); conv => whnf) | ((with_reducible refine SameW.mk rfl ?_); conv => whnf) | ((with_reducible refine Tst.beqT ?_)) | ((with_reducible refine Tst.beqF ?_)) | (refine Tst.yes rfl ?_; conv => whnf) | (refine Tst.no rfl ?_; conv => whnf))); exact ⟨rfl, hI⟩))); (conv => whnf))
      · -- the load
        refine StepG.of (.slice EA es.length ec) (fun S vals wd hk hp hI => ?_) ?_
        · dsimp only at hI
          cases h11 : S 11
          · rw [h11] at hI
            cases h8 : S 8
            · rw [h8] at hI
              cases h7 : S 7
              · rw [h7] at hI
                (conv => whnf)
                refine LoadV.own (hI.mem.get hI.tg) rfl ?_
                (conv => whnf)
                refine ⟨rfl, ?_⟩
                show bif S 11 then _ else bif S 8 then _ else bif S 7 then _ else _
                rw [h11, h8, h7]
                exact hI
              · rw [h7] at hI
                obtain ⟨i6, nb, e7, hnb, hQ⟩ := hI
                (conv => whnf)
                refine LoadV.own (hQ.mem.get hQ.tg) rfl ?_
                (conv => whnf)
                refine ⟨rfl, ?_⟩
                show bif S 11 then _ else bif S 8 then _ else bif S 7 then _ else _
                rw [h11, h8, h7]
                exact ⟨i6, nb, e7, hnb, hQ⟩
            · rw [h8] at hI
              have := hI.1
              rw [hk] at this
              cases this
          · rw [h11] at hI
            have := hI.1
            rw [hk] at this
            cases this
        (conv => whnf)
        (apply StepG.of; (· intro S vals wd hk hp hI; (conv => whnf); (first | exact ⟨rfl, hI⟩ | ((repeat' (first | (refine Obl.mk ⟨by omega, by omega⟩ ?_; conv => whnf) | (refine Obl.mk ⟨by omega, by omega, ⟨by omega, by omega⟩⟩ ?_; conv => whnf) | ((with_reducible refine Tst.tt ?_); conv => whnf) | ((with_reducible refine Tst.ff ?_); conv => whnf) | ((with_reducible refine Tst.dec (fun _ => ?_) (fun _ => ?_)) <;> first | (exfalso; omega) | (conv => whnf)) | ((with_reducible refine Tst.not ?_)) | (refine Wit.conv ⟨by omega, by omega⟩ ?_; conv => whnf) | ((with_reducible refine IdxV.nat (by omega) ?_); conv => whnf) | ((with_reducible refine SameW.mk rfl ?_); conv => whnf) | ((with_reducible refine Tst.beqT ?_)) | ((with_reducible refine Tst.beqF ?_)) | (refine Tst.yes rfl ?_; conv => whnf) | (refine Tst.no rfl ?_; conv => whnf))); exact ⟨rfl, hI⟩))); (conv => whnf))
        -- the call
        refine StepG.of (.string J) (fun S vals wd hk hp hI => ?_) ?_
        · dsimp only at hI
          cases h11 : S 11
          · rw [h11] at hI
            cases h8 : S 8
            · rw [h8] at hI
              cases h7 : S 7
              · rw [h7] at hI
                (conv => whnf)
                have hlr := hI
                rw [hrr] at hlr
                refine CallV.of (joined_any (x :: pre) B d wd hlr.rowL hsz (by simp; omega)) ?_
                rintro v w7 ⟨rfl, he7⟩
                refine ⟨by rw [hJ]; rfl, ?_⟩
                show bif S 11 then _ else bif S 8 then _ else bif S 7 then _ else _
                rw [h11, h8, h7]
                exact hI.call he7
              · rw [h7] at hI
                have := hI.1
                rw [hk] at this
                cases this
            · rw [h8] at hI
              have := hI.2.1
              rw [hk] at this
              cases this
          · rw [h11] at hI
            have := hI.2.1
            rw [hk] at this
            cases this
        (conv => whnf)
        -- the one cell
        refine StepG.any (fun S vals wd hk hp hI => ?_) ?_
        · dsimp only at hI
          have h6t := hp 6 (by decide)
          cases h11 : S 11
          · rw [h11] at hI
            cases h8 : S 8
            · rw [h8] at hI
              rw [hk] at hI
              (conv => whnf)
              refine NewV.rq0 hI ?_
              intro nb w8 h8' hnb
              (conv => whnf)
              refine ⟨trivial, ?_⟩
              show bif S 11 then _ else bif S 8 then _ else bif true then _ else _
              rw [h11, h8]
              exact ⟨h6t, nb, rfl, hnb, h8'⟩
            · rw [h8] at hI
              have := hI.2.2.1
              rw [hk] at this
              cases this
          · rw [h11] at hI
            have := hI.2.2.1
            rw [hk] at this
            cases this
        (conv => whnf)
        -- the append
        refine StepG.any (fun S vals wd hk hp hI => ?_) ?_
        · dsimp only at hI
          have h4t := hp 4 (by decide)
          have h7t := hp 7 (by decide)
          cases h11 : S 11
          · rw [h11] at hI
            rw [hk] at hI
            rw [h7t] at hI
            obtain ⟨i6, nb, e7, hnb, hQ⟩ := hI
            rw [upd_self e7]
            (conv => whnf)
            refine hQ.app5 hnb (by omega) ?_
            intro B' d' w8 L' hQ'
            (conv => whnf)
            refine ⟨trivial, ?_⟩
            show bif S 11 then _ else bif true then _ else bif S 7 then _ else _
            rw [h11]
            exact ⟨h4t, i6, h7t, B', d', L', rfl, hQ'⟩
          · rw [h11] at hI
            have := hI.2.2.2.1
            rw [hk] at this
            cases this
        (conv => whnf)
        (apply StepG.of; (· intro S vals wd hk hp hI; (conv => whnf); (first | exact ⟨rfl, hI⟩ | ((repeat' (first | (refine Obl.mk ⟨by omega, by omega⟩ ?_; conv => whnf) | (refine Obl.mk ⟨by omega, by omega, ⟨by omega, by omega⟩⟩ ?_; conv => whnf) | ((with_reducible refine Tst.tt ?_); conv => whnf) | ((with_reducible refine Tst.ff ?_); conv => whnf) | ((with_reducible refine Tst.dec (fun _ => ?_) (fun _ => ?_)) <;> first | (exfalso; omega) | (conv => whnf)) | ((with_reducible refine Tst.not ?_)) | (refine Wit.conv ⟨by omega, by omega⟩ ?_; conv => whnf) | ((with_reducible refine IdxV.nat (by omega) ?_); conv => whnf) | ((with_reducible refine SameW.mk rfl ?_); conv => whnf) | ((with_reducible refine Tst.beqT ?_)) | ((with_reducible refine Tst.beqF ?_)) | (refine Tst.yes rfl ?_; conv => whnf) | (refine Tst.no rfl ?_; conv => whnf))); exact ⟨rfl, hI⟩))); (conv => whnf))
        (apply StepG.of; (· intro S vals wd hk hp hI; (conv => whnf); (first | exact ⟨rfl, hI⟩ | ((repeat' (first | (refine Obl.mk ⟨by omega, by omega⟩ ?_; conv => whnf) | (refine Obl.mk ⟨by omega, by omega, ⟨by omega, by omega⟩⟩ ?_; conv => whnf) | ((with_reducible refine Tst.tt ?_); conv => whnf) | ((with_reducible refine Tst.ff ?_); conv => whnf) | ((with_reducible refine Tst.dec (fun _ => ?_) (fun _ => ?_)) <;> first | (exfalso; omega) | (conv => whnf)) | ((with_reducible refine Tst.not ?_)) | (refine Wit.conv ⟨by omega, by omega⟩ ?_; conv => whnf) | ((with_reducible refine IdxV.nat (by omega) ?_); conv => whnf) | ((with_reducible refine SameW.mk rfl ?_); conv => whnf) | ((with_reducible refine Tst.beqT ?_)) | ((with_reducible refine Tst.beqF ?_)) | (refine Tst.yes rfl ?_; conv => whnf) | (refine Tst.no rfl ?_; conv => whnf))); exact ⟨rfl, hI⟩))); (conv => whnf))
        -- the store
        refine StepG.of undef (fun S vals wd hk hp hI => ?_) ?_
        · dsimp only at hI
          have h8t := hp 8 (by decide)
          rw [hk] at hI
          rw [h8t] at hI
          obtain ⟨h4t, h6t, h7t, B', d', L', e8, hQ⟩ := hI
          rw [upd_self e8]
          (conv => whnf)
          refine hQ.st5 ?_
          intro w8 hQ'
          (conv => whnf)
          exact ⟨rfl, h4t, h6t, h7t, h8t, hQ'⟩
        (conv => whnf)
        intro vals wd hI
        obtain ⟨_, _, _, _, hQ⟩ := hI
        (conv => whnf)
        refine ⟨hQ.ext, ?_⟩
        by_cases hp0 : pre = []
        · subst hp0
          exact .inl ⟨.inl rfl, rfl⟩
        · have : 0 < pre.length := List.length_pos_iff.2 hp0
          exact .inr ⟨fun h9 => h9.elim hp0 hno, by rw [hl0, decide_eq_true (by omega)], hQ.cut⟩
end Go.Proofs.YtajgbepghniciaaGreatDoor
