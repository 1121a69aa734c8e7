/- path.text. -/
import Derived.Test.YtajgbepghniciaaGreatDoorTxt
namespace Go.Proofs.YtajgbepghniciaaGreatDoor
open Go.RowKit V
set_option maxRecDepth 100000

def parB (b : Bool) (s : ByteArray) : ByteArray := bif b then bs [40] ++ s ++ bs [41] else s
def signOf (op : Int) : List UInt8 := if op = 5 then [42] else if op = 6 then [43] else [63]
/-- a node's text, and how many nodes it is made of -/
inductive TxtR (p : List PN) : Nat → Nat → ByteArray → Prop
  | iri (i : Nat) (n : PN) (h : p[i]? = some n) (hf : FieldsP n) (ho : n.op = 1) : TxtR p i 1 (angT n.iri)
  | not (i : Nat) (n : PN) (h : p[i]? = some n) (hf : FieldsP n) (ho : n.op = 8) : TxtR p i 1 (notT n)
  | inv (i : Nat) (n : PN) (h : p[i]? = some n) (hf : FieldsP n) (ho : n.op = 2) (a : Nat) (na : PN) (m : Nat) (s : ByteArray) (ha : n.a = a) (hai : a < i) (hna : p[a]? = some na) (hs : TxtR p a m s) :
      TxtR p i (m + 1) (bs [94] ++ parB ([(4 : Int), 3].contains na.op) s)
  | rep (i : Nat) (n : PN) (h : p[i]? = some n) (hf : FieldsP n) (ho : n.op = 5 ∨ n.op = 6 ∨ n.op = 7) (a : Nat) (na : PN) (m : Nat) (s : ByteArray) (ha : n.a = a) (hai : a < i) (hna : p[a]? = some na) (hs : TxtR p a m s) :
      TxtR p i (m + 1) (parB ([(4 : Int), 3, 2].contains na.op) s ++ bs (signOf n.op))
  | seq (i : Nat) (n : PN) (h : p[i]? = some n) (hf : FieldsP n) (ho : n.op = 3) (a : Nat) (na : PN) (m : Nat) (s : ByteArray) (ha : n.a = a) (hai : a < i) (hna : p[a]? = some na) (hs : TxtR p a m s)
      (b : Nat) (nb : PN) (k : Nat) (t : ByteArray) (hb : n.b = b) (hbi : b < i) (hnb : p[b]? = some nb) (ht : TxtR p b k t) :
      TxtR p i (m + k + 1) (parB ([(4 : Int)].contains na.op) s ++ bs [47] ++ parB ([(4 : Int), 3].contains nb.op) t)
  | alt (i : Nat) (n : PN) (h : p[i]? = some n) (hf : FieldsP n) (ho : n.op = 4) (a : Nat) (na : PN) (m : Nat) (s : ByteArray) (ha : n.a = a) (hai : a < i) (hna : p[a]? = some na) (hs : TxtR p a m s)
      (b : Nat) (nb : PN) (k : Nat) (t : ByteArray) (hb : n.b = b) (hbi : b < i) (hnb : p[b]? = some nb) (ht : TxtR p b k t) :
      TxtR p i (m + k + 1) (s ++ bs [124] ++ parB ([(4 : Int)].contains nb.op) t)

/-- what is known of a path's memory -/
structure PathAt (w : World) (A : Option Addr) (p : List PN) : Prop where
  sl : SlAt encN 6 w A p
  ok : ∀ n ∈ p, NodeOk w n
  few : ∀ n ∈ p, n.f.length + n.v.length ≤ 100000
  len : p.length ≤ 100000
theorem PathAt.ext {w w' : World} {A : Option Addr} {p : List PN} (h : PathAt w A p) (he : Ext w w') : PathAt w' A p :=
  ⟨h.sl.ext he, fun n hn => (h.ok n hn).ext he, h.few, h.len⟩

theorem bsz (a b : ByteArray) : (a ++ b).size = a.size + b.size := ByteArray.size_append
theorem notT_size (n : PN) (h1 : ListedP n.f) (h2 : ListedP n.v) (hl : n.f.length + n.v.length ≤ 100000) : (notT n).size ≤ 7000000000 := by
  have nsz : ∀ x ∈ notL n.f n.v, x.size ≤ 65539 := fun x hx => by
    rcases List.mem_append.1 hx with hx | hx
    · obtain ⟨s, hs, rfl⟩ := List.mem_map.1 hx
      obtain ⟨i, hi, rfl⟩ := List.getElem_of_mem hs
      have := (iriE_ok (h1 i hi).1).1
      simp only [angT, bsz]; show 1 + _ + 1 ≤ _; omega
    · obtain ⟨s, hs, rfl⟩ := List.mem_map.1 hx
      obtain ⟨i, hi, rfl⟩ := List.getElem_of_mem hs
      have := (iriE_ok (h2 i hi).1).1
      simp only [angT, bsz]; show 1 + (1 + _ + 1) ≤ _; omega
  have hlen : (notL n.f n.v).length = n.f.length + n.v.length := by simp [notL]
  unfold notT
  split
  · rename_i h
    match hL : notL n.f n.v, h with
    | [x], _ =>
      have := nsz x (by rw [hL]; simp)
      simp only [List.headD_cons, bsz]
      show 1 + x.size ≤ _; omega
  · simp only [bsz]
    have : (joinT (notL n.f n.v) [124]).size ≤ 100000 * 65540 := by
      refine Nat.le_trans (join_len_le _ _ 65539 fun x hx => ?_) ?_
      · obtain ⟨y, hy, rfl⟩ := List.mem_map.1 hx
        simpa using nsz y hy
      · rw [List.length_map, hlen]
        exact Nat.mul_le_mul hl (Nat.le_refl _)
    show 2 + _ + 1 ≤ _; omega
theorem parB_size (b : Bool) (s : ByteArray) : (parB b s).size ≤ s.size + 2 := by
  cases b
  · exact Nat.le_add_right _ _
  · show (bs [40] ++ s ++ bs [41]).size ≤ _
    simp only [bsz]; show 1 + s.size + 1 ≤ _; omega
theorem FieldsP.not {n : PN} (h : FieldsP n) (ho : n.op = 8) : ListedP n.f ∧ ListedP n.v ∧ 0 < n.f.length + n.v.length := by
  rcases h with h | h | h | h
  · omega
  · exact ⟨h.2.2.2.2.2.1, h.2.2.2.2.2.2, h.2.2.2.2.1⟩
  · omega
  · omega
theorem FieldsP.iri {n : PN} (h : FieldsP n) (ho : n.op = 1) : iriE n.iri = 0 := by
  rcases h with h | h | h | h
  · exact h.2.2.2.2.2
  · omega
  · omega
  · omega
theorem TxtR.size {w : World} {A : Option Addr} {p : List PN} (hp : PathAt w A p) {i m : Nat} {s : ByteArray} (h : TxtR p i m s) : s.size + 10 ≤ m * 8000000000 := by
  induction h with
  | iri i n h hf ho =>
    have := (iriE_ok (hf.iri ho)).1
    simp only [angT, bsz]; show 1 + _ + 1 + 10 ≤ _; omega
  | not i n h hf ho =>
    obtain ⟨h1, h2, _⟩ := hf.not ho
    have := notT_size n h1 h2 (hp.few n (List.mem_of_getElem? h))
    omega
  | inv i n h hf ho a na m s ha hai hna hs ih =>
    have := parB_size ([(4 : Int), 3].contains na.op) s
    simp only [bsz]; show 1 + _ + 10 ≤ _; omega
  | rep i n h hf ho a na m s ha hai hna hs ih =>
    have := parB_size ([(4 : Int), 3, 2].contains na.op) s
    have h1 : (bs (signOf n.op)).size = 1 := by unfold signOf; split; rfl; split <;> rfl
    simp only [bsz]; omega
  | seq i n h hf ho a na m s ha hai hna hs b nb k t hb hbi hnb ht ih1 ih2 =>
    have h1 := parB_size ([(4 : Int)].contains na.op) s
    have h2 := parB_size ([(4 : Int), 3].contains nb.op) t
    simp only [bsz]; show _ + 1 + _ + 10 ≤ _; omega
  | alt i n h hf ho a na m s ha hai hna hs b nb k t hb hbi hnb ht ih1 ih2 =>
    have h2 := parB_size ([(4 : Int)].contains nb.op) t
    simp only [bsz]; show _ + 1 + _ + 10 ≤ _; omega

theorem contains_int (zs : List Int) (A : Option Addr) (c : Nat) (x : Int) (w : World) (h : SlAt V.encI 1 w A zs) (hl : zs.length ≤ 1000000) :
    Gv Tryz.prog 70 [.slice A zs.length c, .int .i64 x] w fun v w' => v = .bool (zs.contains x) ∧ w' = w := by
  cases zs with
  | nil => exact gv_of (by kernel_rfl) (Tryz.slices_Contains_int_empty A c x w)
  | cons z zs =>
    obtain ⟨b, off, rfl, h1⟩ := h.at_ (by simp)
    have := Tryz.slices_Contains_int b off (z :: zs).length c (z :: zs) x w (Nat.le_refl _) (by omega) (fun j hj => by
      have := h1 j _ (List.getElem?_eq_getElem hj) 0 (.int .i64 (z :: zs)[j]) rfl
      rw [List.getD_eq_getElem?_getD, List.getElem?_eq_getElem hj, Option.getD_some]
      simpa using this)
    rw [List.take_length] at this
    exact gv_of (by kernel_rfl) this

/-- a part of a text, in brackets where it must be -/
theorem part_any (p : List PN) (A : Option Addr) (c b a m : Nat) (s : ByteArray) (na : PN) (zs : List Int) (B : Option Addr) (d : Nat) (w : World) (hp : PathAt w A p) (hb : w.cell? ⟨b, 0, none⟩ = some (.slice A p.length c))
    (hna : p[a]? = some na) (hz : SlAt V.encI 1 w B zs) (hl : zs.length ≤ 1000000) (hs : TxtR p a m s) (hm : m ≤ 64)
    (ih : Gv Tryz.prog 31 [.slice A p.length c, .int .i64 a] w fun v w' => v = .string s ∧ Ext w w') :
    Gv Tryz.prog 69 [.int .i64 a, .slice B zs.length d, .pointer (some ⟨b, 0, none⟩)] w fun v w' => v = .string (parB (zs.contains na.op) s) ∧ Ext w w' := by
  have hsz := hs.size hp
  have halt : a < p.length := by
    rcases Nat.lt_or_ge a p.length with h | h
    · exact h
    · rw [List.getElem?_eq_none h] at hna; cases hna
  refine gv (by kernel_rfl) Tryz.func69 rfl Tryz.ntmps69 rfl ?_; conv => whnf
  refine LoadV.of hb ?_
  (conv => whnf)
  refine CallV.of (ih) ?_
  rintro v w1 ⟨rfl, he⟩
  (conv => whnf)
  refine LoadV.of (he.cell hb) ?_
  (conv => whnf)
  refine ElemV.sl (hp.sl.ext he) rfl a rfl halt ?_
  intro eb off hc
  (conv => whnf)
  have hna' : p[a] = na := by rw [List.getElem?_eq_getElem halt] at hna; exact Option.some.inj hna
  rw [hna'] at hc
  refine LoadV.cell0 hc ?_
  (conv => whnf)
  refine CallV.of (contains_int zs B d na.op w1 (hz.ext he) hl) ?_
  rintro v w2 ⟨rfl, rfl⟩
  (conv => whnf)
  cases hct : zs.contains na.op
  · (repeat' (first
      | (refine Obl.mk ⟨by omega, by omega⟩ ?_; conv => whnf)
      | (refine Obl.mk ⟨by omega, by omega, ⟨by omega, by omega⟩⟩ ?_; conv => whnf)
      | ((with_reducible refine Tst.tt ?_); conv => whnf)
      | ((with_reducible refine Tst.ff ?_); conv => whnf)
      | ((with_reducible refine Tst.dec (fun _ => ?_) (fun _ => ?_)) <;> first | (exfalso; omega) | (conv => whnf))
      | ((with_reducible refine Tst.not ?_))
      | (refine Wit.conv ⟨by omega, by omega⟩ ?_; conv => whnf)
      | ((with_reducible refine IdxV.nat (by omega) ?_); conv => whnf)
      | ((with_reducible refine SameW.mk rfl ?_); conv => whnf)
      | (refine LoadV.mem (i := 0) (by assumption) rfl rfl ?_; conv => whnf)
      | (refine LoadV.mem (i := 1) (by assumption) rfl rfl ?_; conv => whnf)
      | (refine LoadV.mem (i := 2) (by assumption) rfl rfl ?_; conv => whnf)
      | ((with_reducible refine Tst.beqT ?_))
      | ((with_reducible refine Tst.beqF ?_))
      | (refine Tst.yes rfl ?_; conv => whnf)
      | (refine Tst.no rfl ?_; conv => whnf)))
    exact ⟨rfl, he⟩
  · (repeat' (first
      | (refine Obl.mk ⟨by omega, by omega⟩ ?_; conv => whnf)
      | (refine Obl.mk ⟨by omega, by omega, ⟨by omega, by omega⟩⟩ ?_; conv => whnf)
      | ((with_reducible refine Tst.tt ?_); conv => whnf)
      | ((with_reducible refine Tst.ff ?_); conv => whnf)
      | ((with_reducible refine Tst.dec (fun _ => ?_) (fun _ => ?_)) <;> first | (exfalso; omega) | (conv => whnf))
      | ((with_reducible refine Tst.not ?_))
      | (refine Wit.conv ⟨by omega, by omega⟩ ?_; conv => whnf)
      | ((with_reducible refine IdxV.nat (by omega) ?_); conv => whnf)
      | ((with_reducible refine SameW.mk rfl ?_); conv => whnf)
      | (refine LoadV.mem (i := 0) (by assumption) rfl rfl ?_; conv => whnf)
      | (refine LoadV.mem (i := 1) (by assumption) rfl rfl ?_; conv => whnf)
      | (refine LoadV.mem (i := 2) (by assumption) rfl rfl ?_; conv => whnf)
      | ((with_reducible refine Tst.beqT ?_))
      | ((with_reducible refine Tst.beqF ?_))
      | (refine Tst.yes rfl ?_; conv => whnf)
      | (refine Tst.no rfl ?_; conv => whnf)))
    refine ⟨by show 1 + s.size ≤ _; omega, ?_⟩
    (conv => whnf)
    refine ⟨by show (_ ++ s).size + 1 ≤ _; rw [bsz]; show 1 + s.size + 1 ≤ _; omega, ?_⟩
    (conv => whnf)
    exact ⟨rfl, he⟩

theorem slInts {w : World} {b : Nat} {zs : List Int} {cs : Array Value} {t : TypeId} {fr : Nat × Nat} (h : w.heap[b]? = some (.cells cs t fr)) (hc : cs.toList = zs.map (Value.int .i64)) : SlAt V.encI 1 w (some ⟨b, 0, none⟩) zs :=
  ⟨fun _ => ⟨b, 0, rfl, fun j x hx k v hv => by
    rw [cell_heap h]
    have h1 : k = 0 := by
      cases k with
      | zero => rfl
      | succ k => simp [V.encI] at hv
    subst h1
    simp [V.encI] at hv
    subst hv
    have : cs.toList[j]? = some (.int .i64 x) := by rw [hc, List.getElem?_map, hx]; rfl
    simpa using this⟩⟩
theorem part_any' (p : List PN) (A : Option Addr) (c b a m : Nat) (x : Int) (s : ByteArray) (na : PN) (zs : List Int) (B : Option Addr) (k d : Nat) (w : World) (hx : x = a) (hk : k = zs.length) (hp : PathAt w A p) (hb : w.cell? ⟨b, 0, none⟩ = some (.slice A p.length c))
    (hna : p[a]? = some na) (hz : SlAt V.encI 1 w B zs) (hl : zs.length ≤ 1000000) (hs : TxtR p a m s) (hm : m ≤ 64)
    (ih : Gv Tryz.prog 31 [.slice A p.length c, .int .i64 a] w fun v w' => v = .string s ∧ Ext w w') :
    Gv Tryz.prog 69 [.int .i64 x, .slice B k d, .pointer (some ⟨b, 0, none⟩)] w fun v w' => v = .string (parB (zs.contains na.op) s) ∧ Ext w w' := by
  subst hx hk
  exact part_any p A c b a m s na zs B d w hp hb hna hz hl hs hm ih

set_option maxHeartbeats 4000000 in
theorem text_any {p : List PN} {A : Option Addr} {c i m : Nat} {s : ByteArray} (h : TxtR p i m s) : ∀ w, PathAt w A p → m ≤ 64 →
    Gv Tryz.prog 31 [.slice A p.length c, .int .i64 i] w fun v w' => v = .string s ∧ Ext w w' := by
  induction h with
  | iri i n h hf ho =>
    intro w hp hm64
    have hil : i < p.length := (List.getElem?_eq_some_iff.1 h).1
    have hn : p[i] = n := (List.getElem?_eq_some_iff.1 h).2
    refine gv (by kernel_rfl) Tryz.func31 rfl Tryz.ntmps31 rfl ?_; conv => whnf
    refine NewV.mem (Mem.nil w) ?_
    intro pb w1 hm
    (conv => whnf)
    refine LoadV.mem hm (i := 0) rfl rfl ?_
    (conv => whnf)
    refine ElemV.sl (hp.sl.ext hm.ext) rfl i rfl hil ?_
    intro eb off hc
    rw [hn] at hc
    (conv => whnf)
    refine LoadA.cells hc rfl ?_
    (conv => whnf)
    refine NewV.mem hm ?_
    intro nb w2 hm
    (conv => whnf)
    refine StoreA.mem hm (i := 0) rfl (Nat.le_refl 6) (fun v hv => by simp at hv; rcases hv with rfl | rfl | rfl | rfl | rfl | rfl <;> rfl) ?_
    intro w3 hm
    replace hm : Mem w w3 [(nb, .cells (encN n).toArray 81 (0, 0)), (pb, .cells #[.slice A p.length c] 23 (0, 0))] := hm
    have c0 := fun w' (he : Ext w3 w') => cell_heap (off := 0) ((hm.call he).get (List.mem_cons_self ..))
    (conv => whnf)
    refine LoadV.mem hm (i := 0) rfl rfl ?_
    (conv => whnf)
    (repeat' (first
      | (refine Obl.mk ⟨by omega, by omega⟩ ?_; conv => whnf)
      | (refine Obl.mk ⟨by omega, by omega, ⟨by omega, by omega⟩⟩ ?_; conv => whnf)
      | ((with_reducible refine Tst.tt ?_); conv => whnf)
      | ((with_reducible refine Tst.ff ?_); conv => whnf)
      | ((with_reducible refine Tst.dec (fun _ => ?_) (fun _ => ?_)) <;> first | (exfalso; omega) | (conv => whnf))
      | ((with_reducible refine Tst.not ?_))
      | (refine Wit.conv ⟨by omega, by omega⟩ ?_; conv => whnf)
      | ((with_reducible refine IdxV.nat (by omega) ?_); conv => whnf)
      | ((with_reducible refine SameW.mk rfl ?_); conv => whnf)
      | (refine LoadV.mem (i := 0) (by assumption) rfl rfl ?_; conv => whnf)
      | (refine LoadV.mem (i := 1) (by assumption) rfl rfl ?_; conv => whnf)
      | (refine LoadV.mem (i := 2) (by assumption) rfl rfl ?_; conv => whnf)
      | ((with_reducible refine Tst.beqT ?_))
      | ((with_reducible refine Tst.beqF ?_))
      | (refine Tst.yes rfl ?_; conv => whnf)
      | (refine Tst.no rfl ?_; conv => whnf)))

    refine CallV.of (pathAngled_plain _ (hf.iri ho) _) ?_
    rintro v w4 ⟨rfl, he⟩
    (conv => whnf)
    exact ⟨rfl, hm.ext.trans he⟩
  | not i n h hf ho =>
    intro w hp hm64
    have hil : i < p.length := (List.getElem?_eq_some_iff.1 h).1
    have hn : p[i] = n := (List.getElem?_eq_some_iff.1 h).2
    refine gv (by kernel_rfl) Tryz.func31 rfl Tryz.ntmps31 rfl ?_; conv => whnf
    refine NewV.mem (Mem.nil w) ?_
    intro pb w1 hm
    (conv => whnf)
    refine LoadV.mem hm (i := 0) rfl rfl ?_
    (conv => whnf)
    refine ElemV.sl (hp.sl.ext hm.ext) rfl i rfl hil ?_
    intro eb off hc
    rw [hn] at hc
    (conv => whnf)
    refine LoadA.cells hc rfl ?_
    (conv => whnf)
    refine NewV.mem hm ?_
    intro nb w2 hm
    (conv => whnf)
    refine StoreA.mem hm (i := 0) rfl (Nat.le_refl 6) (fun v hv => by simp at hv; rcases hv with rfl | rfl | rfl | rfl | rfl | rfl <;> rfl) ?_
    intro w3 hm
    replace hm : Mem w w3 [(nb, .cells (encN n).toArray 81 (0, 0)), (pb, .cells #[.slice A p.length c] 23 (0, 0))] := hm
    have c0 := fun w' (he : Ext w3 w') => cell_heap (off := 0) ((hm.call he).get (List.mem_cons_self ..))
    (conv => whnf)
    refine LoadV.mem hm (i := 0) rfl rfl ?_
    (conv => whnf)
    (repeat' (first
      | (refine Obl.mk ⟨by omega, by omega⟩ ?_; conv => whnf)
      | (refine Obl.mk ⟨by omega, by omega, ⟨by omega, by omega⟩⟩ ?_; conv => whnf)
      | ((with_reducible refine Tst.tt ?_); conv => whnf)
      | ((with_reducible refine Tst.ff ?_); conv => whnf)
      | ((with_reducible refine Tst.dec (fun _ => ?_) (fun _ => ?_)) <;> first | (exfalso; omega) | (conv => whnf))
      | ((with_reducible refine Tst.not ?_))
      | (refine Wit.conv ⟨by omega, by omega⟩ ?_; conv => whnf)
      | ((with_reducible refine IdxV.nat (by omega) ?_); conv => whnf)
      | ((with_reducible refine SameW.mk rfl ?_); conv => whnf)
      | (refine LoadV.mem (i := 0) (by assumption) rfl rfl ?_; conv => whnf)
      | (refine LoadV.mem (i := 1) (by assumption) rfl rfl ?_; conv => whnf)
      | (refine LoadV.mem (i := 2) (by assumption) rfl rfl ?_; conv => whnf)
      | ((with_reducible refine Tst.beqT ?_))
      | ((with_reducible refine Tst.beqF ?_))
      | (refine Tst.yes rfl ?_; conv => whnf)
      | (refine Tst.no rfl ?_; conv => whnf)))

    refine LoadA.mem hm (i := 0) rfl rfl ?_
    (conv => whnf)
    obtain ⟨h1, h2, h3⟩ := hf.not ho
    have hmem := List.mem_of_getElem? h
    refine CallV.of (not_any n w3 ((hp.ok n hmem).ext hm.ext) h1 h2 (hp.few n hmem) h3) ?_
    rintro v w4 ⟨rfl, he⟩
    (conv => whnf)
    exact ⟨rfl, hm.ext.trans he⟩
  | inv i n h hf ho a na m s ha hai hna hs ih =>
    intro w hp hm64
    have hil : i < p.length := (List.getElem?_eq_some_iff.1 h).1
    have hn : p[i] = n := (List.getElem?_eq_some_iff.1 h).2
    refine gv (by kernel_rfl) Tryz.func31 rfl Tryz.ntmps31 rfl ?_; conv => whnf
    refine NewV.mem (Mem.nil w) ?_
    intro pb w1 hm
    (conv => whnf)
    refine LoadV.mem hm (i := 0) rfl rfl ?_
    (conv => whnf)
    refine ElemV.sl (hp.sl.ext hm.ext) rfl i rfl hil ?_
    intro eb off hc
    rw [hn] at hc
    (conv => whnf)
    refine LoadA.cells hc rfl ?_
    (conv => whnf)
    refine NewV.mem hm ?_
    intro nb w2 hm
    (conv => whnf)
    refine StoreA.mem hm (i := 0) rfl (Nat.le_refl 6) (fun v hv => by simp at hv; rcases hv with rfl | rfl | rfl | rfl | rfl | rfl <;> rfl) ?_
    intro w3 hm
    replace hm : Mem w w3 [(nb, .cells (encN n).toArray 81 (0, 0)), (pb, .cells #[.slice A p.length c] 23 (0, 0))] := hm
    have c0 := fun w' (he : Ext w3 w') => cell_heap (off := 0) ((hm.call he).get (List.mem_cons_self ..))
    (conv => whnf)
    refine LoadV.mem hm (i := 0) rfl rfl ?_
    (conv => whnf)
    (repeat' (first
      | (refine Obl.mk ⟨by omega, by omega⟩ ?_; conv => whnf)
      | (refine Obl.mk ⟨by omega, by omega, ⟨by omega, by omega⟩⟩ ?_; conv => whnf)
      | ((with_reducible refine Tst.tt ?_); conv => whnf)
      | ((with_reducible refine Tst.ff ?_); conv => whnf)
      | ((with_reducible refine Tst.dec (fun _ => ?_) (fun _ => ?_)) <;> first | (exfalso; omega) | (conv => whnf))
      | ((with_reducible refine Tst.not ?_))
      | (refine Wit.conv ⟨by omega, by omega⟩ ?_; conv => whnf)
      | ((with_reducible refine IdxV.nat (by omega) ?_); conv => whnf)
      | ((with_reducible refine SameW.mk rfl ?_); conv => whnf)
      | (refine LoadV.mem (i := 0) (by assumption) rfl rfl ?_; conv => whnf)
      | (refine LoadV.mem (i := 1) (by assumption) rfl rfl ?_; conv => whnf)
      | (refine LoadV.mem (i := 2) (by assumption) rfl rfl ?_; conv => whnf)
      | ((with_reducible refine Tst.beqT ?_))
      | ((with_reducible refine Tst.beqF ?_))
      | (refine Tst.yes rfl ?_; conv => whnf)
      | (refine Tst.no rfl ?_; conv => whnf)))

    refine NewV.mem hm ?_
    intro ob w4 hm4
    (conv => whnf)
    refine CallV.of (part_any' p A c pb a m _ s na [4, 3] _ _ _ w4 ha rfl (hp.ext hm4.ext) (cell_heap (hm4.get (List.mem_cons_of_mem _ (List.mem_cons_of_mem _ (List.mem_cons_self ..))))) hna (slInts (hm4.get (List.mem_cons_self ..)) rfl) (by decide) hs (by omega) (ih w4 (hp.ext hm4.ext) (by omega))) ?_
    rintro v w5 ⟨rfl, he⟩
    have z1 := hs.size hp
    have z2 := parB_size ([(4 : Int), 3].contains na.op) s
    (conv => whnf)
    refine ⟨by show 1 + (parB _ _).size ≤ _; omega, ?_⟩
    (conv => whnf)
    exact ⟨rfl, hm4.ext.trans he⟩
  | rep i n h hf ho a na m s ha hai hna hs ih =>
    have z1 := fun w (hp : PathAt w A p) => hs.size hp
    have z2 := parB_size ([(4 : Int), 3, 2].contains na.op) s
    intro w hp hm64
    have hil : i < p.length := (List.getElem?_eq_some_iff.1 h).1
    have hn : p[i] = n := (List.getElem?_eq_some_iff.1 h).2
    refine gv (by kernel_rfl) Tryz.func31 rfl Tryz.ntmps31 rfl ?_; conv => whnf
    refine NewV.mem (Mem.nil w) ?_
    intro pb w1 hm
    (conv => whnf)
    refine LoadV.mem hm (i := 0) rfl rfl ?_
    (conv => whnf)
    refine ElemV.sl (hp.sl.ext hm.ext) rfl i rfl hil ?_
    intro eb off hc
    rw [hn] at hc
    (conv => whnf)
    refine LoadA.cells hc rfl ?_
    (conv => whnf)
    refine NewV.mem hm ?_
    intro nb w2 hm
    (conv => whnf)
    refine StoreA.mem hm (i := 0) rfl (Nat.le_refl 6) (fun v hv => by simp at hv; rcases hv with rfl | rfl | rfl | rfl | rfl | rfl <;> rfl) ?_
    intro w3 hm
    replace hm : Mem w w3 [(nb, .cells (encN n).toArray 81 (0, 0)), (pb, .cells #[.slice A p.length c] 23 (0, 0))] := hm
    have c0 := fun w' (he : Ext w3 w') => cell_heap (off := 0) ((hm.call he).get (List.mem_cons_self ..))
    (conv => whnf)
    refine LoadV.mem hm (i := 0) rfl rfl ?_
    (conv => whnf)
    (repeat' (first
      | (refine Obl.mk ⟨by omega, by omega⟩ ?_; conv => whnf)
      | (refine Obl.mk ⟨by omega, by omega, ⟨by omega, by omega⟩⟩ ?_; conv => whnf)
      | ((with_reducible refine Tst.tt ?_); conv => whnf)
      | ((with_reducible refine Tst.ff ?_); conv => whnf)
      | ((with_reducible refine Tst.dec (fun _ => ?_) (fun _ => ?_)) <;> first | (exfalso; omega) | (conv => whnf))
      | ((with_reducible refine Tst.not ?_))
      | (refine Wit.conv ⟨by omega, by omega⟩ ?_; conv => whnf)
      | ((with_reducible refine IdxV.nat (by omega) ?_); conv => whnf)
      | ((with_reducible refine SameW.mk rfl ?_); conv => whnf)
      | (refine LoadV.mem (i := 0) (by assumption) rfl rfl ?_; conv => whnf)
      | (refine LoadV.mem (i := 1) (by assumption) rfl rfl ?_; conv => whnf)
      | (refine LoadV.mem (i := 2) (by assumption) rfl rfl ?_; conv => whnf)
      | ((with_reducible refine Tst.beqT ?_))
      | ((with_reducible refine Tst.beqF ?_))
      | (refine Tst.yes rfl ?_; conv => whnf)
      | (refine Tst.no rfl ?_; conv => whnf)))

    refine IdxV.at_ (n.op - 5).toNat (by omega) (by omega) ?_
    refine ⟨.string (bs (signOf n.op)), ?_, ?_⟩
    · rcases ho with h | h | h <;> rw [h] <;> rfl
    (conv => whnf)
    refine LoadV.mem hm (i := 0) rfl rfl ?_
    (conv => whnf)
    refine NewV.mem hm ?_
    intro ob w4 hm4
    (conv => whnf)
    refine CallV.of (part_any' p A c pb a m _ s na [4, 3, 2] _ _ _ w4 ha rfl (hp.ext hm4.ext) (cell_heap (hm4.get (List.mem_cons_of_mem _ (List.mem_cons_of_mem _ (List.mem_cons_self ..))))) hna (slInts (hm4.get (List.mem_cons_self ..)) rfl) (by decide) hs (by omega) (ih w4 (hp.ext hm4.ext) (by omega))) ?_
    rintro v w5 ⟨rfl, he⟩
    have z1 := z1 w hp
    have z3 : (bs (signOf n.op)).size = 1 := by unfold signOf; split; rfl; split <;> rfl
    (conv => whnf)
    refine ⟨by rw [z3]; omega, ?_⟩
    (conv => whnf)
    exact ⟨rfl, hm4.ext.trans he⟩
  | alt i n h hf ho a na m s ha hai hna hs b nb' k t hb hbi hnb ht ih1 ih2 =>
    have z1 := fun w (hp : PathAt w A p) => hs.size hp
    have z2 := fun w (hp : PathAt w A p) => ht.size hp
    have z3 := parB_size ([(4 : Int)].contains nb'.op) t
    intro w hp hm64
    have hil : i < p.length := (List.getElem?_eq_some_iff.1 h).1
    have hn : p[i] = n := (List.getElem?_eq_some_iff.1 h).2
    refine gv (by kernel_rfl) Tryz.func31 rfl Tryz.ntmps31 rfl ?_; conv => whnf
    refine NewV.mem (Mem.nil w) ?_
    intro pb w1 hm
    (conv => whnf)
    refine LoadV.mem hm (i := 0) rfl rfl ?_
    (conv => whnf)
    refine ElemV.sl (hp.sl.ext hm.ext) rfl i rfl hil ?_
    intro eb off hc
    rw [hn] at hc
    (conv => whnf)
    refine LoadA.cells hc rfl ?_
    (conv => whnf)
    refine NewV.mem hm ?_
    intro nb w2 hm
    (conv => whnf)
    refine StoreA.mem hm (i := 0) rfl (Nat.le_refl 6) (fun v hv => by simp at hv; rcases hv with rfl | rfl | rfl | rfl | rfl | rfl <;> rfl) ?_
    intro w3 hm
    replace hm : Mem w w3 [(nb, .cells (encN n).toArray 81 (0, 0)), (pb, .cells #[.slice A p.length c] 23 (0, 0))] := hm
    have c0 := fun w' (he : Ext w3 w') => cell_heap (off := 0) ((hm.call he).get (List.mem_cons_self ..))
    (conv => whnf)
    refine LoadV.mem hm (i := 0) rfl rfl ?_
    (conv => whnf)
    (repeat' (first
      | (refine Obl.mk ⟨by omega, by omega⟩ ?_; conv => whnf)
      | (refine Obl.mk ⟨by omega, by omega, ⟨by omega, by omega⟩⟩ ?_; conv => whnf)
      | ((with_reducible refine Tst.tt ?_); conv => whnf)
      | ((with_reducible refine Tst.ff ?_); conv => whnf)
      | ((with_reducible refine Tst.dec (fun _ => ?_) (fun _ => ?_)) <;> first | (exfalso; omega) | (conv => whnf))
      | ((with_reducible refine Tst.not ?_))
      | (refine Wit.conv ⟨by omega, by omega⟩ ?_; conv => whnf)
      | ((with_reducible refine IdxV.nat (by omega) ?_); conv => whnf)
      | ((with_reducible refine SameW.mk rfl ?_); conv => whnf)
      | (refine LoadV.mem (i := 0) (by assumption) rfl rfl ?_; conv => whnf)
      | (refine LoadV.mem (i := 1) (by assumption) rfl rfl ?_; conv => whnf)
      | (refine LoadV.mem (i := 2) (by assumption) rfl rfl ?_; conv => whnf)
      | ((with_reducible refine Tst.beqT ?_))
      | ((with_reducible refine Tst.beqF ?_))
      | (refine Tst.yes rfl ?_; conv => whnf)
      | (refine Tst.no rfl ?_; conv => whnf)))

    refine DrawV.free rfl (by kernel_rfl) ?_
    (conv => whnf)
    (apply StepD.still; (· intro wd hd; (conv => whnf); (repeat (intro _ _; (conv => whnf))); (first | exact ⟨Ext.refl _, rfl⟩ | ((repeat' (first | (refine Obl.mk ⟨by omega, by omega⟩ ?_; conv => whnf) | (refine Obl.mk ⟨by omega, by omega, ⟨by omega, by omega⟩⟩ ?_; conv => whnf) | ((with_reducible refine Tst.tt ?_); conv => whnf) | ((with_reducible refine Tst.ff ?_); conv => whnf) | ((with_reducible refine Tst.dec (fun _ => ?_) (fun _ => ?_)) <;> first | (exfalso; omega) | (conv => whnf)) | ((with_reducible refine Tst.not ?_)) | (refine Wit.conv ⟨by omega, by omega⟩ ?_; conv => whnf) | ((with_reducible refine IdxV.nat (by omega) ?_); conv => whnf) | ((with_reducible refine SameW.mk rfl ?_); conv => whnf) | ((with_reducible refine Tst.beqT ?_)) | ((with_reducible refine Tst.beqF ?_)) | (refine Tst.yes rfl ?_; conv => whnf) | (refine Tst.no rfl ?_; conv => whnf))); exact ⟨Ext.refl _, rfl⟩))); (conv => whnf))
    (apply StepD.still; (· intro wd hd; (conv => whnf); (repeat (intro _ _; (conv => whnf))); (first | exact ⟨Ext.refl _, rfl⟩ | ((repeat' (first | (refine Obl.mk ⟨by omega, by omega⟩ ?_; conv => whnf) | (refine Obl.mk ⟨by omega, by omega, ⟨by omega, by omega⟩⟩ ?_; conv => whnf) | ((with_reducible refine Tst.tt ?_); conv => whnf) | ((with_reducible refine Tst.ff ?_); conv => whnf) | ((with_reducible refine Tst.dec (fun _ => ?_) (fun _ => ?_)) <;> first | (exfalso; omega) | (conv => whnf)) | ((with_reducible refine Tst.not ?_)) | (refine Wit.conv ⟨by omega, by omega⟩ ?_; conv => whnf) | ((with_reducible refine IdxV.nat (by omega) ?_); conv => whnf) | ((with_reducible refine SameW.mk rfl ?_); conv => whnf) | ((with_reducible refine Tst.beqT ?_)) | ((with_reducible refine Tst.beqF ?_)) | (refine Tst.yes rfl ?_; conv => whnf) | (refine Tst.no rfl ?_; conv => whnf))); exact ⟨Ext.refl _, rfl⟩))); (conv => whnf))
    (apply StepD.still; (· intro wd hd; (conv => whnf); (repeat' (first | (refine Obl.mk ⟨by omega, by omega⟩ ?_; conv => whnf) | (refine Obl.mk ⟨by omega, by omega, ⟨by omega, by omega⟩⟩ ?_; conv => whnf) | ((with_reducible refine Tst.tt ?_); conv => whnf) | ((with_reducible refine Tst.ff ?_); conv => whnf) | ((with_reducible refine Tst.dec (fun _ => ?_) (fun _ => ?_)) <;> first | (exfalso; omega) | (conv => whnf)) | ((with_reducible refine Tst.not ?_)) | (refine Wit.conv ⟨by omega, by omega⟩ ?_; conv => whnf) | ((with_reducible refine IdxV.nat (by omega) ?_); conv => whnf) | ((with_reducible refine SameW.mk rfl ?_); conv => whnf) | ((with_reducible refine Tst.beqT ?_)) | ((with_reducible refine Tst.beqF ?_)) | (refine Tst.yes rfl ?_; conv => whnf) | (refine Tst.no rfl ?_; conv => whnf))); refine LoadV.mem (Mem.call (Mem.drew hm) hd) (i := 0) rfl rfl ?_; (conv => whnf); exact ⟨Ext.refl _, rfl⟩); (conv => whnf))
    apply StepD.still
    · intro wd hd
      (conv => whnf)
      have hmd := hm.drew.call hd
      refine CallV.of (part_any' p A c pb a m _ s na [] none 0 0 wd ha rfl (hp.ext hmd.ext) (cell_heap (hmd.get (List.mem_cons_of_mem _ (List.mem_cons_self ..)))) hna ⟨fun h => absurd rfl h⟩ (by decide) hs (by omega) (ih1 wd (hp.ext hmd.ext) (by omega))) ?_
      rintro v w5 ⟨rfl, he⟩
      exact ⟨he, rfl⟩
    (conv => whnf)
    apply StepD.still
    · intro wd hd
      (conv => whnf)
      refine ⟨by show (parB _ _).size + 1 ≤ _; have := z1 w hp; have := parB_size (([] : List Int).contains na.op) s; omega, ?_⟩
      (conv => whnf)
      exact ⟨Ext.refl _, rfl⟩
    (conv => whnf)
    (apply StepD.still; (· intro wd hd; (conv => whnf); (repeat (intro _ _; (conv => whnf))); (first | exact ⟨Ext.refl _, rfl⟩ | ((repeat' (first | (refine Obl.mk ⟨by omega, by omega⟩ ?_; conv => whnf) | (refine Obl.mk ⟨by omega, by omega, ⟨by omega, by omega⟩⟩ ?_; conv => whnf) | ((with_reducible refine Tst.tt ?_); conv => whnf) | ((with_reducible refine Tst.ff ?_); conv => whnf) | ((with_reducible refine Tst.dec (fun _ => ?_) (fun _ => ?_)) <;> first | (exfalso; omega) | (conv => whnf)) | ((with_reducible refine Tst.not ?_)) | (refine Wit.conv ⟨by omega, by omega⟩ ?_; conv => whnf) | ((with_reducible refine IdxV.nat (by omega) ?_); conv => whnf) | ((with_reducible refine SameW.mk rfl ?_); conv => whnf) | ((with_reducible refine Tst.beqT ?_)) | ((with_reducible refine Tst.beqF ?_)) | (refine Tst.yes rfl ?_; conv => whnf) | (refine Tst.no rfl ?_; conv => whnf))); exact ⟨Ext.refl _, rfl⟩))); (conv => whnf))
    (apply StepD.still; (· intro wd hd; (conv => whnf); (repeat (intro _ _; (conv => whnf))); (first | exact ⟨Ext.refl _, rfl⟩ | ((repeat' (first | (refine Obl.mk ⟨by omega, by omega⟩ ?_; conv => whnf) | (refine Obl.mk ⟨by omega, by omega, ⟨by omega, by omega⟩⟩ ?_; conv => whnf) | ((with_reducible refine Tst.tt ?_); conv => whnf) | ((with_reducible refine Tst.ff ?_); conv => whnf) | ((with_reducible refine Tst.dec (fun _ => ?_) (fun _ => ?_)) <;> first | (exfalso; omega) | (conv => whnf)) | ((with_reducible refine Tst.not ?_)) | (refine Wit.conv ⟨by omega, by omega⟩ ?_; conv => whnf) | ((with_reducible refine IdxV.nat (by omega) ?_); conv => whnf) | ((with_reducible refine SameW.mk rfl ?_); conv => whnf) | ((with_reducible refine Tst.beqT ?_)) | ((with_reducible refine Tst.beqF ?_)) | (refine Tst.yes rfl ?_; conv => whnf) | (refine Tst.no rfl ?_; conv => whnf))); exact ⟨Ext.refl _, rfl⟩))); (conv => whnf))
    (apply StepD.still; (· intro wd hd; (conv => whnf); (repeat' (first | (refine Obl.mk ⟨by omega, by omega⟩ ?_; conv => whnf) | (refine Obl.mk ⟨by omega, by omega, ⟨by omega, by omega⟩⟩ ?_; conv => whnf) | ((with_reducible refine Tst.tt ?_); conv => whnf) | ((with_reducible refine Tst.ff ?_); conv => whnf) | ((with_reducible refine Tst.dec (fun _ => ?_) (fun _ => ?_)) <;> first | (exfalso; omega) | (conv => whnf)) | ((with_reducible refine Tst.not ?_)) | (refine Wit.conv ⟨by omega, by omega⟩ ?_; conv => whnf) | ((with_reducible refine IdxV.nat (by omega) ?_); conv => whnf) | ((with_reducible refine SameW.mk rfl ?_); conv => whnf) | ((with_reducible refine Tst.beqT ?_)) | ((with_reducible refine Tst.beqF ?_)) | (refine Tst.yes rfl ?_; conv => whnf) | (refine Tst.no rfl ?_; conv => whnf))); refine LoadV.mem (Mem.call (Mem.drew hm) hd) (i := 0) rfl rfl ?_; (conv => whnf); exact ⟨Ext.refl _, rfl⟩); (conv => whnf))
    apply StepD.of (fun v w => ∃ ob, v = .slice (some ⟨ob, 0, none⟩) 1 1 ∧ SlAt V.encI 1 w (some ⟨ob, 0, none⟩) [4])
    · rintro v w w' ⟨ob, rfl, h⟩ he
      exact ⟨ob, rfl, h.ext he⟩
    · intro wd hd
      (conv => whnf)
      refine NewV.ext fun ob w' he hb => ?_
      (conv => whnf)
      exact ⟨he, ob, rfl, slInts hb rfl⟩
    (conv => whnf)
    apply StepD.still
    · intro wd hd
      (conv => whnf)
      rintro _ ⟨ob, rfl, hsl⟩
      (conv => whnf)
      have hmd := hm.drew.call hd
      refine CallV.of (part_any' p A c pb b k _ t nb' [4] _ _ _ wd hb rfl (hp.ext hmd.ext) (cell_heap (hmd.get (List.mem_cons_of_mem _ (List.mem_cons_self ..)))) hnb hsl (by decide) ht (by omega) (ih2 wd (hp.ext hmd.ext) (by omega))) ?_
      rintro v w5 ⟨rfl, he⟩
      exact ⟨he, rfl⟩
    (conv => whnf)
    apply StepD.still
    · intro wd hd
      (conv => whnf)
      refine ⟨by show (parB _ _ ++ bs [124]).size + (parB _ _).size ≤ _; rw [bsz]; show (parB _ _).size + 1 + _ ≤ _; have := z1 w hp; have := z2 w hp; have := parB_size (([] : List Int).contains na.op) s; omega, ?_⟩
      (conv => whnf)
      exact ⟨Ext.refl _, rfl⟩
    (conv => whnf)
    (apply StepD.still; (· intro wd hd; (conv => whnf); (repeat (intro _ _; (conv => whnf))); (first | exact ⟨Ext.refl _, rfl⟩ | ((repeat' (first | (refine Obl.mk ⟨by omega, by omega⟩ ?_; conv => whnf) | (refine Obl.mk ⟨by omega, by omega, ⟨by omega, by omega⟩⟩ ?_; conv => whnf) | ((with_reducible refine Tst.tt ?_); conv => whnf) | ((with_reducible refine Tst.ff ?_); conv => whnf) | ((with_reducible refine Tst.dec (fun _ => ?_) (fun _ => ?_)) <;> first | (exfalso; omega) | (conv => whnf)) | ((with_reducible refine Tst.not ?_)) | (refine Wit.conv ⟨by omega, by omega⟩ ?_; conv => whnf) | ((with_reducible refine IdxV.nat (by omega) ?_); conv => whnf) | ((with_reducible refine SameW.mk rfl ?_); conv => whnf) | ((with_reducible refine Tst.beqT ?_)) | ((with_reducible refine Tst.beqF ?_)) | (refine Tst.yes rfl ?_; conv => whnf) | (refine Tst.no rfl ?_; conv => whnf))); exact ⟨Ext.refl _, rfl⟩))); (conv => whnf))
    intro wd hd
    (conv => whnf)
    intro v _
    (conv => whnf)
    exact ⟨rfl, (hm.drew.call hd).ext⟩
  | seq i n h hf ho a na m s ha hai hna hs b nb' k t hb hbi hnb ht ih1 ih2 =>
    have z1 := fun w (hp : PathAt w A p) => hs.size hp
    have z2 := fun w (hp : PathAt w A p) => ht.size hp
    have z3 := parB_size ([(4 : Int), 3].contains nb'.op) t
    have z4 := parB_size ([(4 : Int)].contains na.op) s
    intro w hp hm64
    have hil : i < p.length := (List.getElem?_eq_some_iff.1 h).1
    have hn : p[i] = n := (List.getElem?_eq_some_iff.1 h).2
    refine gv (by kernel_rfl) Tryz.func31 rfl Tryz.ntmps31 rfl ?_; conv => whnf
    refine NewV.mem (Mem.nil w) ?_
    intro pb w1 hm
    (conv => whnf)
    refine LoadV.mem hm (i := 0) rfl rfl ?_
    (conv => whnf)
    refine ElemV.sl (hp.sl.ext hm.ext) rfl i rfl hil ?_
    intro eb off hc
    rw [hn] at hc
    (conv => whnf)
    refine LoadA.cells hc rfl ?_
    (conv => whnf)
    refine NewV.mem hm ?_
    intro nb w2 hm
    (conv => whnf)
    refine StoreA.mem hm (i := 0) rfl (Nat.le_refl 6) (fun v hv => by simp at hv; rcases hv with rfl | rfl | rfl | rfl | rfl | rfl <;> rfl) ?_
    intro w3 hm
    replace hm : Mem w w3 [(nb, .cells (encN n).toArray 81 (0, 0)), (pb, .cells #[.slice A p.length c] 23 (0, 0))] := hm
    have c0 := fun w' (he : Ext w3 w') => cell_heap (off := 0) ((hm.call he).get (List.mem_cons_self ..))
    (conv => whnf)
    refine LoadV.mem hm (i := 0) rfl rfl ?_
    (conv => whnf)
    (repeat' (first
      | (refine Obl.mk ⟨by omega, by omega⟩ ?_; conv => whnf)
      | (refine Obl.mk ⟨by omega, by omega, ⟨by omega, by omega⟩⟩ ?_; conv => whnf)
      | ((with_reducible refine Tst.tt ?_); conv => whnf)
      | ((with_reducible refine Tst.ff ?_); conv => whnf)
      | ((with_reducible refine Tst.dec (fun _ => ?_) (fun _ => ?_)) <;> first | (exfalso; omega) | (conv => whnf))
      | ((with_reducible refine Tst.not ?_))
      | (refine Wit.conv ⟨by omega, by omega⟩ ?_; conv => whnf)
      | ((with_reducible refine IdxV.nat (by omega) ?_); conv => whnf)
      | ((with_reducible refine SameW.mk rfl ?_); conv => whnf)
      | (refine LoadV.mem (i := 0) (by assumption) rfl rfl ?_; conv => whnf)
      | (refine LoadV.mem (i := 1) (by assumption) rfl rfl ?_; conv => whnf)
      | (refine LoadV.mem (i := 2) (by assumption) rfl rfl ?_; conv => whnf)
      | ((with_reducible refine Tst.beqT ?_))
      | ((with_reducible refine Tst.beqF ?_))
      | (refine Tst.yes rfl ?_; conv => whnf)
      | (refine Tst.no rfl ?_; conv => whnf)))

    refine DrawV.free rfl (by kernel_rfl) ?_
    (conv => whnf)
    (apply StepD.still; (· intro wd hd; (conv => whnf); (repeat (intro _ _; (conv => whnf))); (first | exact ⟨Ext.refl _, rfl⟩ | ((repeat' (first | (refine Obl.mk ⟨by omega, by omega⟩ ?_; conv => whnf) | (refine Obl.mk ⟨by omega, by omega, ⟨by omega, by omega⟩⟩ ?_; conv => whnf) | ((with_reducible refine Tst.tt ?_); conv => whnf) | ((with_reducible refine Tst.ff ?_); conv => whnf) | ((with_reducible refine Tst.dec (fun _ => ?_) (fun _ => ?_)) <;> first | (exfalso; omega) | (conv => whnf)) | ((with_reducible refine Tst.not ?_)) | (refine Wit.conv ⟨by omega, by omega⟩ ?_; conv => whnf) | ((with_reducible refine IdxV.nat (by omega) ?_); conv => whnf) | ((with_reducible refine SameW.mk rfl ?_); conv => whnf) | ((with_reducible refine Tst.beqT ?_)) | ((with_reducible refine Tst.beqF ?_)) | (refine Tst.yes rfl ?_; conv => whnf) | (refine Tst.no rfl ?_; conv => whnf))); exact ⟨Ext.refl _, rfl⟩))); (conv => whnf))
    (apply StepD.still; (· intro wd hd; (conv => whnf); (repeat (intro _ _; (conv => whnf))); (first | exact ⟨Ext.refl _, rfl⟩ | ((repeat' (first | (refine Obl.mk ⟨by omega, by omega⟩ ?_; conv => whnf) | (refine Obl.mk ⟨by omega, by omega, ⟨by omega, by omega⟩⟩ ?_; conv => whnf) | ((with_reducible refine Tst.tt ?_); conv => whnf) | ((with_reducible refine Tst.ff ?_); conv => whnf) | ((with_reducible refine Tst.dec (fun _ => ?_) (fun _ => ?_)) <;> first | (exfalso; omega) | (conv => whnf)) | ((with_reducible refine Tst.not ?_)) | (refine Wit.conv ⟨by omega, by omega⟩ ?_; conv => whnf) | ((with_reducible refine IdxV.nat (by omega) ?_); conv => whnf) | ((with_reducible refine SameW.mk rfl ?_); conv => whnf) | ((with_reducible refine Tst.beqT ?_)) | ((with_reducible refine Tst.beqF ?_)) | (refine Tst.yes rfl ?_; conv => whnf) | (refine Tst.no rfl ?_; conv => whnf))); exact ⟨Ext.refl _, rfl⟩))); (conv => whnf))
    (apply StepD.still; (· intro wd hd; (conv => whnf); (repeat' (first | (refine Obl.mk ⟨by omega, by omega⟩ ?_; conv => whnf) | (refine Obl.mk ⟨by omega, by omega, ⟨by omega, by omega⟩⟩ ?_; conv => whnf) | ((with_reducible refine Tst.tt ?_); conv => whnf) | ((with_reducible refine Tst.ff ?_); conv => whnf) | ((with_reducible refine Tst.dec (fun _ => ?_) (fun _ => ?_)) <;> first | (exfalso; omega) | (conv => whnf)) | ((with_reducible refine Tst.not ?_)) | (refine Wit.conv ⟨by omega, by omega⟩ ?_; conv => whnf) | ((with_reducible refine IdxV.nat (by omega) ?_); conv => whnf) | ((with_reducible refine SameW.mk rfl ?_); conv => whnf) | ((with_reducible refine Tst.beqT ?_)) | ((with_reducible refine Tst.beqF ?_)) | (refine Tst.yes rfl ?_; conv => whnf) | (refine Tst.no rfl ?_; conv => whnf))); refine LoadV.mem (Mem.call (Mem.drew hm) hd) (i := 0) rfl rfl ?_; (conv => whnf); exact ⟨Ext.refl _, rfl⟩); (conv => whnf))
    apply StepD.of (fun v w => ∃ ob, v = .slice (some ⟨ob, 0, none⟩) 1 1 ∧ SlAt V.encI 1 w (some ⟨ob, 0, none⟩) [4])
    · rintro v w w' ⟨ob, rfl, h⟩ he
      exact ⟨ob, rfl, h.ext he⟩
    · intro wd hd
      (conv => whnf)
      refine NewV.ext fun ob w' he hb => ?_
      (conv => whnf)
      exact ⟨he, ob, rfl, slInts hb rfl⟩
    (conv => whnf)
    apply StepD.still
    · intro wd hd
      (conv => whnf)
      rintro _ ⟨ob, rfl, hsl⟩
      (conv => whnf)
      have hmd := hm.drew.call hd
      refine CallV.of (part_any' p A c pb a m _ s na [4] _ _ _ wd ha rfl (hp.ext hmd.ext) (cell_heap (hmd.get (List.mem_cons_of_mem _ (List.mem_cons_self ..)))) hna hsl (by decide) hs (by omega) (ih1 wd (hp.ext hmd.ext) (by omega))) ?_
      rintro v w5 ⟨rfl, he⟩
      exact ⟨he, rfl⟩
    (conv => whnf)
    apply StepD.still
    · intro wd hd
      (conv => whnf)
      refine ⟨by show (parB _ _).size + 1 ≤ _; have := z1 w hp; omega, ?_⟩
      (conv => whnf)
      exact ⟨Ext.refl _, rfl⟩
    (conv => whnf)
    (apply StepD.still; (· intro wd hd; (conv => whnf); (repeat (intro _ _; (conv => whnf))); (first | exact ⟨Ext.refl _, rfl⟩ | ((repeat' (first | (refine Obl.mk ⟨by omega, by omega⟩ ?_; conv => whnf) | (refine Obl.mk ⟨by omega, by omega, ⟨by omega, by omega⟩⟩ ?_; conv => whnf) | ((with_reducible refine Tst.tt ?_); conv => whnf) | ((with_reducible refine Tst.ff ?_); conv => whnf) | ((with_reducible refine Tst.dec (fun _ => ?_) (fun _ => ?_)) <;> first | (exfalso; omega) | (conv => whnf)) | ((with_reducible refine Tst.not ?_)) | (refine Wit.conv ⟨by omega, by omega⟩ ?_; conv => whnf) | ((with_reducible refine IdxV.nat (by omega) ?_); conv => whnf) | ((with_reducible refine SameW.mk rfl ?_); conv => whnf) | ((with_reducible refine Tst.beqT ?_)) | ((with_reducible refine Tst.beqF ?_)) | (refine Tst.yes rfl ?_; conv => whnf) | (refine Tst.no rfl ?_; conv => whnf))); exact ⟨Ext.refl _, rfl⟩))); (conv => whnf))
    (apply StepD.still; (· intro wd hd; (conv => whnf); (repeat (intro _ _; (conv => whnf))); (first | exact ⟨Ext.refl _, rfl⟩ | ((repeat' (first | (refine Obl.mk ⟨by omega, by omega⟩ ?_; conv => whnf) | (refine Obl.mk ⟨by omega, by omega, ⟨by omega, by omega⟩⟩ ?_; conv => whnf) | ((with_reducible refine Tst.tt ?_); conv => whnf) | ((with_reducible refine Tst.ff ?_); conv => whnf) | ((with_reducible refine Tst.dec (fun _ => ?_) (fun _ => ?_)) <;> first | (exfalso; omega) | (conv => whnf)) | ((with_reducible refine Tst.not ?_)) | (refine Wit.conv ⟨by omega, by omega⟩ ?_; conv => whnf) | ((with_reducible refine IdxV.nat (by omega) ?_); conv => whnf) | ((with_reducible refine SameW.mk rfl ?_); conv => whnf) | ((with_reducible refine Tst.beqT ?_)) | ((with_reducible refine Tst.beqF ?_)) | (refine Tst.yes rfl ?_; conv => whnf) | (refine Tst.no rfl ?_; conv => whnf))); exact ⟨Ext.refl _, rfl⟩))); (conv => whnf))
    (apply StepD.still; (· intro wd hd; (conv => whnf); (repeat' (first | (refine Obl.mk ⟨by omega, by omega⟩ ?_; conv => whnf) | (refine Obl.mk ⟨by omega, by omega, ⟨by omega, by omega⟩⟩ ?_; conv => whnf) | ((with_reducible refine Tst.tt ?_); conv => whnf) | ((with_reducible refine Tst.ff ?_); conv => whnf) | ((with_reducible refine Tst.dec (fun _ => ?_) (fun _ => ?_)) <;> first | (exfalso; omega) | (conv => whnf)) | ((with_reducible refine Tst.not ?_)) | (refine Wit.conv ⟨by omega, by omega⟩ ?_; conv => whnf) | ((with_reducible refine IdxV.nat (by omega) ?_); conv => whnf) | ((with_reducible refine SameW.mk rfl ?_); conv => whnf) | ((with_reducible refine Tst.beqT ?_)) | ((with_reducible refine Tst.beqF ?_)) | (refine Tst.yes rfl ?_; conv => whnf) | (refine Tst.no rfl ?_; conv => whnf))); refine LoadV.mem (Mem.call (Mem.drew hm) hd) (i := 0) rfl rfl ?_; (conv => whnf); exact ⟨Ext.refl _, rfl⟩); (conv => whnf))
    apply StepD.of (fun v w => ∃ ob, v = .slice (some ⟨ob, 0, none⟩) 2 2 ∧ SlAt V.encI 1 w (some ⟨ob, 0, none⟩) [4, 3])
    · rintro v w w' ⟨ob, rfl, h⟩ he
      exact ⟨ob, rfl, h.ext he⟩
    · intro wd hd
      (conv => whnf)
      refine NewV.ext fun ob w' he hb => ?_
      (conv => whnf)
      exact ⟨he, ob, rfl, slInts hb rfl⟩
    (conv => whnf)
    apply StepD.still
    · intro wd hd
      (conv => whnf)
      rintro _ ⟨ob, rfl, hsl⟩
      (conv => whnf)
      have hmd := hm.drew.call hd
      refine CallV.of (part_any' p A c pb b k _ t nb' [4, 3] _ _ _ wd hb rfl (hp.ext hmd.ext) (cell_heap (hmd.get (List.mem_cons_of_mem _ (List.mem_cons_self ..)))) hnb hsl (by decide) ht (by omega) (ih2 wd (hp.ext hmd.ext) (by omega))) ?_
      rintro v w5 ⟨rfl, he⟩
      exact ⟨he, rfl⟩
    (conv => whnf)
    apply StepD.still
    · intro wd hd
      (conv => whnf)
      refine ⟨by show (parB _ _ ++ bs [47]).size + (parB _ _).size ≤ _; rw [bsz]; show (parB _ _).size + 1 + _ ≤ _; have := z1 w hp; have := z2 w hp; omega, ?_⟩
      (conv => whnf)
      exact ⟨Ext.refl _, rfl⟩
    (conv => whnf)
    (apply StepD.still; (· intro wd hd; (conv => whnf); (repeat (intro _ _; (conv => whnf))); (first | exact ⟨Ext.refl _, rfl⟩ | ((repeat' (first | (refine Obl.mk ⟨by omega, by omega⟩ ?_; conv => whnf) | (refine Obl.mk ⟨by omega, by omega, ⟨by omega, by omega⟩⟩ ?_; conv => whnf) | ((with_reducible refine Tst.tt ?_); conv => whnf) | ((with_reducible refine Tst.ff ?_); conv => whnf) | ((with_reducible refine Tst.dec (fun _ => ?_) (fun _ => ?_)) <;> first | (exfalso; omega) | (conv => whnf)) | ((with_reducible refine Tst.not ?_)) | (refine Wit.conv ⟨by omega, by omega⟩ ?_; conv => whnf) | ((with_reducible refine IdxV.nat (by omega) ?_); conv => whnf) | ((with_reducible refine SameW.mk rfl ?_); conv => whnf) | ((with_reducible refine Tst.beqT ?_)) | ((with_reducible refine Tst.beqF ?_)) | (refine Tst.yes rfl ?_; conv => whnf) | (refine Tst.no rfl ?_; conv => whnf))); exact ⟨Ext.refl _, rfl⟩))); (conv => whnf))
    intro wd hd
    (conv => whnf)
    intro v _
    (conv => whnf)
    intro v _
    (conv => whnf)
    exact ⟨rfl, (hm.drew.call hd).ext⟩
end Go.Proofs.YtajgbepghniciaaGreatDoor
