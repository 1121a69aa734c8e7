/- The document's paths: within, text, Text. -/
import Derived.Test.YtajgbepghniciaaGreatDoorRef22c
namespace Go.Proofs.YtajgbepghniciaaGreatDoor
open Go.RowKit V
set_option maxRecDepth 100000

theorem within_any (p : List PN) (A : Option Addr) (c a m : Nat) (x : Int) (s : ByteArray) (na : PN) (zs : List Int) (B : Option Addr) (k d : Nat) (w : World) (hx : x = a) (hk : k = zs.length) (hp : PathAt w A p)
    (hna : p[a]? = some na) (hz : SlAt V.encI 1 w B zs) (hl : zs.length ≤ 1000000) (hs : TxtR p a m s) (hm : m ≤ 64)
    (ih : ∀ w, PathAt w A p → Gv Tryz.prog 32 [.slice A p.length c, .int .i64 a] w fun v w' => v = .string s ∧ Ext w w') :
    Gv Tryz.prog 74 [.slice A p.length c, .int .i64 x, .slice B k d] w fun v w' => v = .string (parB (zs.contains na.op) s) ∧ Ext w w' := by
  subst hx hk
  have hsz := hs.size hp
  have halt : a < p.length := (List.getElem?_eq_some_iff.1 hna).1
  have hna' : p[a] = na := (List.getElem?_eq_some_iff.1 hna).2
  refine gv (by kernel_rfl) Tryz.func74 rfl Tryz.ntmps74 rfl ?_; conv => whnf
  refine loopV (fun i : Nat => [(0, .slice A p.length c), (1, .int .i64 a), (2, .slice B zs.length d), (7, .int .i64 i)])
    (fun i w2 => i ≤ zs.length ∧ Ext w w2 ∧ (zs.take i).contains na.op = false) (fun i => zs.length - i) 0 ⟨rfl, rfl, rfl, rfl, trivial⟩ ⟨by omega, Ext.refl _, by simp⟩ ?_
  rintro i w2 ρ' ⟨hi, he, hc⟩
  (conv => whnf)
  (repeat' (first
      | (refine Obl.mk ⟨by omega, by omega⟩ ?_; conv => whnf)
      | (refine Obl.mk ⟨by omega, by omega, ⟨by omega, by omega⟩⟩ ?_; conv => whnf)
      | ((with_reducible refine Tst.tt ?_); conv => whnf)
      | ((with_reducible refine Tst.ff ?_); conv => whnf)
      | ((with_reducible refine Tst.dec (fun _ => ?_) (fun _ => ?_)) <;> first | (exfalso; omega) | (conv => whnf))
      | ((with_reducible refine Tst.not ?_))
      | (refine Wit.conv ⟨by omega, by omega⟩ ?_; conv => whnf)
      | ((with_reducible refine IdxV.nat (by omega) ?_); conv => whnf)
      | ((with_reducible refine SameW.mk rfl ?_); conv => whnf)
      | (refine LoadV.mem (i := 0) (by assumption) rfl rfl ?_; conv => whnf)
      | (refine LoadV.mem (i := 1) (by assumption) rfl rfl ?_; conv => whnf)
      | (refine LoadV.mem (i := 2) (by assumption) rfl rfl ?_; conv => whnf)
      | ((with_reducible refine Tst.beqT ?_))
      | ((with_reducible refine Tst.beqF ?_))
      | (refine Tst.yes rfl ?_; conv => whnf)
      | (refine Tst.no rfl ?_; conv => whnf)))
  · have hlt : i < zs.length := by omega
    refine DrawV.quiet (by kernel_rfl) (by kernel_rfl) ?_; conv => whnf
    (repeat' (first
      | (refine Obl.mk ⟨by omega, by omega⟩ ?_; conv => whnf)
      | (refine Obl.mk ⟨by omega, by omega, ⟨by omega, by omega⟩⟩ ?_; conv => whnf)
      | ((with_reducible refine Tst.tt ?_); conv => whnf)
      | ((with_reducible refine Tst.ff ?_); conv => whnf)
      | ((with_reducible refine Tst.dec (fun _ => ?_) (fun _ => ?_)) <;> first | (exfalso; omega) | (conv => whnf))
      | ((with_reducible refine Tst.not ?_))
      | (refine Wit.conv ⟨by omega, by omega⟩ ?_; conv => whnf)
      | ((with_reducible refine IdxV.nat (by omega) ?_); conv => whnf)
      | ((with_reducible refine SameW.mk rfl ?_); conv => whnf)
      | (refine LoadV.mem (i := 0) (by assumption) rfl rfl ?_; conv => whnf)
      | (refine LoadV.mem (i := 1) (by assumption) rfl rfl ?_; conv => whnf)
      | (refine LoadV.mem (i := 2) (by assumption) rfl rfl ?_; conv => whnf)
      | ((with_reducible refine Tst.beqT ?_))
      | ((with_reducible refine Tst.beqF ?_))
      | (refine Tst.yes rfl ?_; conv => whnf)
      | (refine Tst.no rfl ?_; conv => whnf)))
    refine ElemV.sl (hp.sl.ext he.drew) rfl a rfl halt ?_
    intro eb off hcell
    rw [hna'] at hcell
    (conv => whnf)
    (repeat' (first
      | (refine Obl.mk ⟨by omega, by omega⟩ ?_; conv => whnf)
      | (refine Obl.mk ⟨by omega, by omega, ⟨by omega, by omega⟩⟩ ?_; conv => whnf)
      | ((with_reducible refine Tst.tt ?_); conv => whnf)
      | ((with_reducible refine Tst.ff ?_); conv => whnf)
      | ((with_reducible refine Tst.dec (fun _ => ?_) (fun _ => ?_)) <;> first | (exfalso; omega) | (conv => whnf))
      | ((with_reducible refine Tst.not ?_))
      | (refine Wit.conv ⟨by omega, by omega⟩ ?_; conv => whnf)
      | ((with_reducible refine IdxV.nat (by omega) ?_); conv => whnf)
      | ((with_reducible refine SameW.mk rfl ?_); conv => whnf)
      | (refine LoadV.mem (i := 0) (by assumption) rfl rfl ?_; conv => whnf)
      | (refine LoadV.mem (i := 1) (by assumption) rfl rfl ?_; conv => whnf)
      | (refine LoadV.mem (i := 2) (by assumption) rfl rfl ?_; conv => whnf)
      | ((with_reducible refine Tst.beqT ?_))
      | ((with_reducible refine Tst.beqF ?_))
      | (refine Tst.yes rfl ?_; conv => whnf)
      | (refine Tst.no rfl ?_; conv => whnf)))
    refine LoadV.cell0 hcell ?_
    (conv => whnf)
    (repeat' (first
      | (refine Obl.mk ⟨by omega, by omega⟩ ?_; conv => whnf)
      | (refine Obl.mk ⟨by omega, by omega, ⟨by omega, by omega⟩⟩ ?_; conv => whnf)
      | ((with_reducible refine Tst.tt ?_); conv => whnf)
      | ((with_reducible refine Tst.ff ?_); conv => whnf)
      | ((with_reducible refine Tst.dec (fun _ => ?_) (fun _ => ?_)) <;> first | (exfalso; omega) | (conv => whnf))
      | ((with_reducible refine Tst.not ?_))
      | (refine Wit.conv ⟨by omega, by omega⟩ ?_; conv => whnf)
      | ((with_reducible refine IdxV.nat (by omega) ?_); conv => whnf)
      | ((with_reducible refine SameW.mk rfl ?_); conv => whnf)
      | (refine LoadV.mem (i := 0) (by assumption) rfl rfl ?_; conv => whnf)
      | (refine LoadV.mem (i := 1) (by assumption) rfl rfl ?_; conv => whnf)
      | (refine LoadV.mem (i := 2) (by assumption) rfl rfl ?_; conv => whnf)
      | ((with_reducible refine Tst.beqT ?_))
      | ((with_reducible refine Tst.beqF ?_))
      | (refine Tst.yes rfl ?_; conv => whnf)
      | (refine Tst.no rfl ?_; conv => whnf)))
    refine ElemV.sl (hz.ext he.drew) rfl i rfl (by omega) ?_
    intro eb2 off2 hcell2
    (conv => whnf)
    (repeat' (first
      | (refine Obl.mk ⟨by omega, by omega⟩ ?_; conv => whnf)
      | (refine Obl.mk ⟨by omega, by omega, ⟨by omega, by omega⟩⟩ ?_; conv => whnf)
      | ((with_reducible refine Tst.tt ?_); conv => whnf)
      | ((with_reducible refine Tst.ff ?_); conv => whnf)
      | ((with_reducible refine Tst.dec (fun _ => ?_) (fun _ => ?_)) <;> first | (exfalso; omega) | (conv => whnf))
      | ((with_reducible refine Tst.not ?_))
      | (refine Wit.conv ⟨by omega, by omega⟩ ?_; conv => whnf)
      | ((with_reducible refine IdxV.nat (by omega) ?_); conv => whnf)
      | ((with_reducible refine SameW.mk rfl ?_); conv => whnf)
      | (refine LoadV.mem (i := 0) (by assumption) rfl rfl ?_; conv => whnf)
      | (refine LoadV.mem (i := 1) (by assumption) rfl rfl ?_; conv => whnf)
      | (refine LoadV.mem (i := 2) (by assumption) rfl rfl ?_; conv => whnf)
      | ((with_reducible refine Tst.beqT ?_))
      | ((with_reducible refine Tst.beqF ?_))
      | (refine Tst.yes rfl ?_; conv => whnf)
      | (refine Tst.no rfl ?_; conv => whnf)))
    refine LoadV.cell0 hcell2 ?_
    (conv => whnf)
    (repeat' (first
      | (refine Obl.mk ⟨by omega, by omega⟩ ?_; conv => whnf)
      | (refine Obl.mk ⟨by omega, by omega, ⟨by omega, by omega⟩⟩ ?_; conv => whnf)
      | ((with_reducible refine Tst.tt ?_); conv => whnf)
      | ((with_reducible refine Tst.ff ?_); conv => whnf)
      | ((with_reducible refine Tst.dec (fun _ => ?_) (fun _ => ?_)) <;> first | (exfalso; omega) | (conv => whnf))
      | ((with_reducible refine Tst.not ?_))
      | (refine Wit.conv ⟨by omega, by omega⟩ ?_; conv => whnf)
      | ((with_reducible refine IdxV.nat (by omega) ?_); conv => whnf)
      | ((with_reducible refine SameW.mk rfl ?_); conv => whnf)
      | (refine LoadV.mem (i := 0) (by assumption) rfl rfl ?_; conv => whnf)
      | (refine LoadV.mem (i := 1) (by assumption) rfl rfl ?_; conv => whnf)
      | (refine LoadV.mem (i := 2) (by assumption) rfl rfl ?_; conv => whnf)
      | ((with_reducible refine Tst.beqT ?_))
      | ((with_reducible refine Tst.beqF ?_))
      | (refine Tst.yes rfl ?_; conv => whnf)
      | (refine Tst.no rfl ?_; conv => whnf)))
    --GEN
    · refine CallV.of (ih _ (hp.ext he.drew)) ?_
      rintro v w3 ⟨rfl, he3⟩
      (conv => whnf)
      refine ⟨by show 1 + s.size ≤ _; omega, ?_⟩
      (conv => whnf)
      refine ⟨by show (_ ++ s).size + 1 ≤ _; rw [bsz]; show 1 + s.size + 1 ≤ _; omega, ?_⟩
      (conv => whnf)
      refine ⟨?_, he.drew.trans he3⟩
      have hct : zs.contains na.op = true := by
        rw [List.contains_iff_mem]
        have : na.op = zs[i] := by omega
        rw [this]; exact List.getElem_mem hlt
      rw [hct]; rfl
    · refine ⟨i + 1, ⟨rfl, rfl, rfl, rfl, trivial⟩, ⟨by omega, he.drew, ?_⟩, by omega⟩
      rw [List.take_succ_eq_append_getElem hlt, List.contains_eq_mem, decide_eq_false_iff_not, List.mem_append]
      rw [List.contains_eq_mem, decide_eq_false_iff_not] at hc
      rintro (h | h)
      · exact hc h
      · simp at h; contradiction
  · refine CallV.of (ih _ (hp.ext he)) ?_
    rintro v w3 ⟨rfl, he3⟩
    (conv => whnf)
    refine ⟨?_, he.trans he3⟩
    rw [List.take_of_length_le (by omega)] at hc
    rw [hc]; rfl

set_option maxHeartbeats 4000000 in
theorem refText_any {p : List PN} {A : Option Addr} {c i m : Nat} {s : ByteArray} (h : TxtR p i m s) : ∀ w, PathAt w A p → m ≤ 64 →
    Gv Tryz.prog 32 [.slice A p.length c, .int .i64 i] w fun v w' => v = .string s ∧ Ext w w' := by
  induction h with
  | iri i n h hf ho =>
    intro w hp hm64
    have hil : i < p.length := (List.getElem?_eq_some_iff.1 h).1
    have hn : p[i] = n := (List.getElem?_eq_some_iff.1 h).2
    refine gv (by kernel_rfl) Tryz.func32 rfl Tryz.ntmps32 rfl ?_; conv => whnf
    refine ElemV.sl hp.sl rfl i rfl hil ?_
    intro eb off hc
    rw [hn] at hc
    (conv => whnf)
    refine LoadA.cells hc rfl ?_
    (conv => whnf)
    refine NewV.mem (Mem.nil w) ?_
    intro nb w2 hm
    (conv => whnf)
    refine StoreA.mem hm (i := 0) rfl (Nat.le_refl 6) (fun v hv => by simp at hv; rcases hv with rfl | rfl | rfl | rfl | rfl | rfl <;> rfl) ?_
    intro w3 hm
    replace hm : Mem w w3 [(nb, .cells (encN n).toArray 81 (0, 0))] := hm
    (conv => whnf)
    refine LoadV.mem hm (i := 0) rfl rfl ?_
    (conv => whnf)
    (repeat' (first
      | (refine Obl.mk ⟨by omega, by omega⟩ ?_; conv => whnf)
      | (refine Obl.mk ⟨by omega, by omega, ⟨by omega, by omega⟩⟩ ?_; conv => whnf)
      | ((with_reducible refine Tst.tt ?_); conv => whnf)
      | ((with_reducible refine Tst.ff ?_); conv => whnf)
      | ((with_reducible refine Tst.dec (fun _ => ?_) (fun _ => ?_)) <;> first | (exfalso; omega) | (conv => whnf))
      | ((with_reducible refine Tst.not ?_))
      | (refine Wit.conv ⟨by omega, by omega⟩ ?_; conv => whnf)
      | ((with_reducible refine IdxV.nat (by omega) ?_); conv => whnf)
      | ((with_reducible refine SameW.mk rfl ?_); conv => whnf)
      | (refine LoadV.mem (i := 0) (by assumption) rfl rfl ?_; conv => whnf)
      | (refine LoadV.mem (i := 1) (by assumption) rfl rfl ?_; conv => whnf)
      | (refine LoadV.mem (i := 2) (by assumption) rfl rfl ?_; conv => whnf)
      | ((with_reducible refine Tst.beqT ?_))
      | ((with_reducible refine Tst.beqF ?_))
      | (refine Tst.yes rfl ?_; conv => whnf)
      | (refine Tst.no rfl ?_; conv => whnf)))
    refine CallV.of (refIri_plain _ (hf.iri ho) _) ?_
    rintro v w4 ⟨rfl, he⟩
    (conv => whnf)
    exact ⟨rfl, hm.ext.trans he⟩
  | not i n h hf ho =>
    intro w hp hm64
    have hil : i < p.length := (List.getElem?_eq_some_iff.1 h).1
    have hn : p[i] = n := (List.getElem?_eq_some_iff.1 h).2
    refine gv (by kernel_rfl) Tryz.func32 rfl Tryz.ntmps32 rfl ?_; conv => whnf
    refine ElemV.sl hp.sl rfl i rfl hil ?_
    intro eb off hc
    rw [hn] at hc
    (conv => whnf)
    refine LoadA.cells hc rfl ?_
    (conv => whnf)
    refine NewV.mem (Mem.nil w) ?_
    intro nb w2 hm
    (conv => whnf)
    refine StoreA.mem hm (i := 0) rfl (Nat.le_refl 6) (fun v hv => by simp at hv; rcases hv with rfl | rfl | rfl | rfl | rfl | rfl <;> rfl) ?_
    intro w3 hm
    replace hm : Mem w w3 [(nb, .cells (encN n).toArray 81 (0, 0))] := hm
    (conv => whnf)
    refine LoadV.mem hm (i := 0) rfl rfl ?_
    (conv => whnf)
    (repeat' (first
      | (refine Obl.mk ⟨by omega, by omega⟩ ?_; conv => whnf)
      | (refine Obl.mk ⟨by omega, by omega, ⟨by omega, by omega⟩⟩ ?_; conv => whnf)
      | ((with_reducible refine Tst.tt ?_); conv => whnf)
      | ((with_reducible refine Tst.ff ?_); conv => whnf)
      | ((with_reducible refine Tst.dec (fun _ => ?_) (fun _ => ?_)) <;> first | (exfalso; omega) | (conv => whnf))
      | ((with_reducible refine Tst.not ?_))
      | (refine Wit.conv ⟨by omega, by omega⟩ ?_; conv => whnf)
      | ((with_reducible refine IdxV.nat (by omega) ?_); conv => whnf)
      | ((with_reducible refine SameW.mk rfl ?_); conv => whnf)
      | (refine LoadV.mem (i := 0) (by assumption) rfl rfl ?_; conv => whnf)
      | (refine LoadV.mem (i := 1) (by assumption) rfl rfl ?_; conv => whnf)
      | (refine LoadV.mem (i := 2) (by assumption) rfl rfl ?_; conv => whnf)
      | ((with_reducible refine Tst.beqT ?_))
      | ((with_reducible refine Tst.beqF ?_))
      | (refine Tst.yes rfl ?_; conv => whnf)
      | (refine Tst.no rfl ?_; conv => whnf)))
    refine LoadA.mem hm (i := 0) rfl rfl ?_
    (conv => whnf)
    obtain ⟨h1, h2, h3⟩ := hf.not ho
    have hmem := List.mem_of_getElem? h
    have hsz := notT_size n h1 h2 (hp.few n hmem)
    rw [← refNotT_eq, bsz] at hsz
    refine CallV.of (refNot_any n w3 ((hp.ok n hmem).ext hm.ext) h1 h2 (hp.few n hmem) h3) ?_
    rintro v w4 ⟨rfl, he⟩
    (conv => whnf)
    refine ⟨by show 1 + (refNotT n).size ≤ _; omega, ?_⟩
    (conv => whnf)
    exact ⟨by rw [← refNotT_eq]; rfl, hm.ext.trans he⟩
  | inv i n h hf ho a na m s ha hai hna hs ih =>
    intro w hp hm64
    have hil : i < p.length := (List.getElem?_eq_some_iff.1 h).1
    have hn : p[i] = n := (List.getElem?_eq_some_iff.1 h).2
    refine gv (by kernel_rfl) Tryz.func32 rfl Tryz.ntmps32 rfl ?_; conv => whnf
    refine ElemV.sl hp.sl rfl i rfl hil ?_
    intro eb off hc
    rw [hn] at hc
    (conv => whnf)
    refine LoadA.cells hc rfl ?_
    (conv => whnf)
    refine NewV.mem (Mem.nil w) ?_
    intro nb w2 hm
    (conv => whnf)
    refine StoreA.mem hm (i := 0) rfl (Nat.le_refl 6) (fun v hv => by simp at hv; rcases hv with rfl | rfl | rfl | rfl | rfl | rfl <;> rfl) ?_
    intro w3 hm
    replace hm : Mem w w3 [(nb, .cells (encN n).toArray 81 (0, 0))] := hm
    (conv => whnf)
    refine LoadV.mem hm (i := 0) rfl rfl ?_
    (conv => whnf)
    (repeat' (first
      | (refine Obl.mk ⟨by omega, by omega⟩ ?_; conv => whnf)
      | (refine Obl.mk ⟨by omega, by omega, ⟨by omega, by omega⟩⟩ ?_; conv => whnf)
      | ((with_reducible refine Tst.tt ?_); conv => whnf)
      | ((with_reducible refine Tst.ff ?_); conv => whnf)
      | ((with_reducible refine Tst.dec (fun _ => ?_) (fun _ => ?_)) <;> first | (exfalso; omega) | (conv => whnf))
      | ((with_reducible refine Tst.not ?_))
      | (refine Wit.conv ⟨by omega, by omega⟩ ?_; conv => whnf)
      | ((with_reducible refine IdxV.nat (by omega) ?_); conv => whnf)
      | ((with_reducible refine SameW.mk rfl ?_); conv => whnf)
      | (refine LoadV.mem (i := 0) (by assumption) rfl rfl ?_; conv => whnf)
      | (refine LoadV.mem (i := 1) (by assumption) rfl rfl ?_; conv => whnf)
      | (refine LoadV.mem (i := 2) (by assumption) rfl rfl ?_; conv => whnf)
      | ((with_reducible refine Tst.beqT ?_))
      | ((with_reducible refine Tst.beqF ?_))
      | (refine Tst.yes rfl ?_; conv => whnf)
      | (refine Tst.no rfl ?_; conv => whnf)))
    refine NewV.mem hm ?_
    intro ob w4 hm4
    (conv => whnf)
    refine CallV.of (within_any p A c a m _ s na [4, 3] _ _ _ w4 ha rfl (hp.ext hm4.ext) hna (slInts (hm4.get (List.mem_cons_self ..)) rfl) (by decide) hs (by omega) (fun w hp => ih w hp (by omega))) ?_
    rintro v w5 ⟨rfl, he⟩
    have z1 := hs.size hp
    have z2 := parB_size ([(4 : Int), 3].contains na.op) s
    (conv => whnf)
    refine ⟨by show 1 + (parB _ _).size ≤ _; omega, ?_⟩
    (conv => whnf)
    exact ⟨rfl, hm4.ext.trans he⟩
  | rep i n h hf ho a na m s ha hai hna hs ih =>
    have z1 := fun w (hp : PathAt w A p) => hs.size hp
    have z2 := parB_size ([(4 : Int), 3, 2].contains na.op) s
    intro w hp hm64
    have hil : i < p.length := (List.getElem?_eq_some_iff.1 h).1
    have hn : p[i] = n := (List.getElem?_eq_some_iff.1 h).2
    refine gv (by kernel_rfl) Tryz.func32 rfl Tryz.ntmps32 rfl ?_; conv => whnf
    refine ElemV.sl hp.sl rfl i rfl hil ?_
    intro eb off hc
    rw [hn] at hc
    (conv => whnf)
    refine LoadA.cells hc rfl ?_
    (conv => whnf)
    refine NewV.mem (Mem.nil w) ?_
    intro nb w2 hm
    (conv => whnf)
    refine StoreA.mem hm (i := 0) rfl (Nat.le_refl 6) (fun v hv => by simp at hv; rcases hv with rfl | rfl | rfl | rfl | rfl | rfl <;> rfl) ?_
    intro w3 hm
    replace hm : Mem w w3 [(nb, .cells (encN n).toArray 81 (0, 0))] := hm
    (conv => whnf)
    refine LoadV.mem hm (i := 0) rfl rfl ?_
    (conv => whnf)
    (repeat' (first
      | (refine Obl.mk ⟨by omega, by omega⟩ ?_; conv => whnf)
      | (refine Obl.mk ⟨by omega, by omega, ⟨by omega, by omega⟩⟩ ?_; conv => whnf)
      | ((with_reducible refine Tst.tt ?_); conv => whnf)
      | ((with_reducible refine Tst.ff ?_); conv => whnf)
      | ((with_reducible refine Tst.dec (fun _ => ?_) (fun _ => ?_)) <;> first | (exfalso; omega) | (conv => whnf))
      | ((with_reducible refine Tst.not ?_))
      | (refine Wit.conv ⟨by omega, by omega⟩ ?_; conv => whnf)
      | ((with_reducible refine IdxV.nat (by omega) ?_); conv => whnf)
      | ((with_reducible refine SameW.mk rfl ?_); conv => whnf)
      | (refine LoadV.mem (i := 0) (by assumption) rfl rfl ?_; conv => whnf)
      | (refine LoadV.mem (i := 1) (by assumption) rfl rfl ?_; conv => whnf)
      | (refine LoadV.mem (i := 2) (by assumption) rfl rfl ?_; conv => whnf)
      | ((with_reducible refine Tst.beqT ?_))
      | ((with_reducible refine Tst.beqF ?_))
      | (refine Tst.yes rfl ?_; conv => whnf)
      | (refine Tst.no rfl ?_; conv => whnf)))
    refine NewV.mem hm ?_
    intro ob w4 hm4
    (conv => whnf)
    refine CallV.of (within_any p A c a m _ s na [4, 3, 2] _ _ _ w4 ha rfl (hp.ext hm4.ext) hna (slInts (hm4.get (List.mem_cons_self ..)) rfl) (by decide) hs (by omega) (fun w hp => ih w hp (by omega))) ?_
    rintro v w5 ⟨rfl, he⟩
    have z1 := z1 w hp
    have hm5 := hm4.call he
    (conv => whnf)
    (repeat' (first
      | (refine Obl.mk ⟨by omega, by omega⟩ ?_; conv => whnf)
      | (refine Obl.mk ⟨by omega, by omega, ⟨by omega, by omega⟩⟩ ?_; conv => whnf)
      | ((with_reducible refine Tst.tt ?_); conv => whnf)
      | ((with_reducible refine Tst.ff ?_); conv => whnf)
      | ((with_reducible refine Tst.dec (fun _ => ?_) (fun _ => ?_)) <;> first | (exfalso; omega) | (conv => whnf))
      | ((with_reducible refine Tst.not ?_))
      | (refine Wit.conv ⟨by omega, by omega⟩ ?_; conv => whnf)
      | ((with_reducible refine IdxV.nat (by omega) ?_); conv => whnf)
      | ((with_reducible refine SameW.mk rfl ?_); conv => whnf)
      | (refine LoadV.mem (i := 0) (by assumption) rfl rfl ?_; conv => whnf)
      | (refine LoadV.mem (i := 1) (by assumption) rfl rfl ?_; conv => whnf)
      | (refine LoadV.mem (i := 2) (by assumption) rfl rfl ?_; conv => whnf)
      | ((with_reducible refine Tst.beqT ?_))
      | ((with_reducible refine Tst.beqF ?_))
      | (refine Tst.yes rfl ?_; conv => whnf)
      | (refine Tst.no rfl ?_; conv => whnf)))
    all_goals
      refine ⟨by show (parB _ _).size + 1 ≤ _; omega, ?_⟩
      (conv => whnf)
      refine ⟨?_, hm5.ext⟩
    · rw [show n.op = 5 by omega]; rfl
    · rw [show n.op = 6 by omega]; rfl
    · rw [show n.op = 7 by omega]; rfl
  | alt i n h hf ho a na m s ha hai hna hs b nb' k t hb hbi hnb ht ih1 ih2 =>
    have z1 := fun w (hp : PathAt w A p) => hs.size hp
    have z2 := fun w (hp : PathAt w A p) => ht.size hp
    have z3 := parB_size ([(4 : Int)].contains nb'.op) t
    intro w hp hm64
    have hil : i < p.length := (List.getElem?_eq_some_iff.1 h).1
    have hn : p[i] = n := (List.getElem?_eq_some_iff.1 h).2
    refine gv (by kernel_rfl) Tryz.func32 rfl Tryz.ntmps32 rfl ?_; conv => whnf
    refine ElemV.sl hp.sl rfl i rfl hil ?_
    intro eb off hc
    rw [hn] at hc
    (conv => whnf)
    refine LoadA.cells hc rfl ?_
    (conv => whnf)
    refine NewV.mem (Mem.nil w) ?_
    intro nb w2 hm
    (conv => whnf)
    refine StoreA.mem hm (i := 0) rfl (Nat.le_refl 6) (fun v hv => by simp at hv; rcases hv with rfl | rfl | rfl | rfl | rfl | rfl <;> rfl) ?_
    intro w3 hm
    replace hm : Mem w w3 [(nb, .cells (encN n).toArray 81 (0, 0))] := hm
    (conv => whnf)
    refine LoadV.mem hm (i := 0) rfl rfl ?_
    (conv => whnf)
    (repeat' (first
      | (refine Obl.mk ⟨by omega, by omega⟩ ?_; conv => whnf)
      | (refine Obl.mk ⟨by omega, by omega, ⟨by omega, by omega⟩⟩ ?_; conv => whnf)
      | ((with_reducible refine Tst.tt ?_); conv => whnf)
      | ((with_reducible refine Tst.ff ?_); conv => whnf)
      | ((with_reducible refine Tst.dec (fun _ => ?_) (fun _ => ?_)) <;> first | (exfalso; omega) | (conv => whnf))
      | ((with_reducible refine Tst.not ?_))
      | (refine Wit.conv ⟨by omega, by omega⟩ ?_; conv => whnf)
      | ((with_reducible refine IdxV.nat (by omega) ?_); conv => whnf)
      | ((with_reducible refine SameW.mk rfl ?_); conv => whnf)
      | (refine LoadV.mem (i := 0) (by assumption) rfl rfl ?_; conv => whnf)
      | (refine LoadV.mem (i := 1) (by assumption) rfl rfl ?_; conv => whnf)
      | (refine LoadV.mem (i := 2) (by assumption) rfl rfl ?_; conv => whnf)
      | ((with_reducible refine Tst.beqT ?_))
      | ((with_reducible refine Tst.beqF ?_))
      | (refine Tst.yes rfl ?_; conv => whnf)
      | (refine Tst.no rfl ?_; conv => whnf)))
    refine DrawV.free rfl (by kernel_rfl) ?_
    (conv => whnf)
    (apply StepD.still; (· intro wd hd; (conv => whnf); (repeat (intro _ _; (conv => whnf))); (first | exact ⟨Ext.refl _, rfl⟩ | ((repeat' (first | (refine Obl.mk ⟨by omega, by omega⟩ ?_; conv => whnf) | (refine Obl.mk ⟨by omega, by omega, ⟨by omega, by omega⟩⟩ ?_; conv => whnf) | ((with_reducible refine Tst.tt ?_); conv => whnf) | ((with_reducible refine Tst.ff ?_); conv => whnf) | ((with_reducible refine Tst.dec (fun _ => ?_) (fun _ => ?_)) <;> first | (exfalso; omega) | (conv => whnf)) | ((with_reducible refine Tst.not ?_)) | (refine Wit.conv ⟨by omega, by omega⟩ ?_; conv => whnf) | ((with_reducible refine IdxV.nat (by omega) ?_); conv => whnf) | ((with_reducible refine SameW.mk rfl ?_); conv => whnf) | ((with_reducible refine Tst.beqT ?_)) | ((with_reducible refine Tst.beqF ?_)) | (refine Tst.yes rfl ?_; conv => whnf) | (refine Tst.no rfl ?_; conv => whnf))); exact ⟨Ext.refl _, rfl⟩))); (conv => whnf))
    (apply StepD.still; (· intro wd hd; (conv => whnf); (repeat (intro _ _; (conv => whnf))); (first | exact ⟨Ext.refl _, rfl⟩ | ((repeat' (first | (refine Obl.mk ⟨by omega, by omega⟩ ?_; conv => whnf) | (refine Obl.mk ⟨by omega, by omega, ⟨by omega, by omega⟩⟩ ?_; conv => whnf) | ((with_reducible refine Tst.tt ?_); conv => whnf) | ((with_reducible refine Tst.ff ?_); conv => whnf) | ((with_reducible refine Tst.dec (fun _ => ?_) (fun _ => ?_)) <;> first | (exfalso; omega) | (conv => whnf)) | ((with_reducible refine Tst.not ?_)) | (refine Wit.conv ⟨by omega, by omega⟩ ?_; conv => whnf) | ((with_reducible refine IdxV.nat (by omega) ?_); conv => whnf) | ((with_reducible refine SameW.mk rfl ?_); conv => whnf) | ((with_reducible refine Tst.beqT ?_)) | ((with_reducible refine Tst.beqF ?_)) | (refine Tst.yes rfl ?_; conv => whnf) | (refine Tst.no rfl ?_; conv => whnf))); exact ⟨Ext.refl _, rfl⟩))); (conv => whnf))
    (apply StepD.still; (· intro wd hd; (conv => whnf); (repeat' (first | (refine Obl.mk ⟨by omega, by omega⟩ ?_; conv => whnf) | (refine Obl.mk ⟨by omega, by omega, ⟨by omega, by omega⟩⟩ ?_; conv => whnf) | ((with_reducible refine Tst.tt ?_); conv => whnf) | ((with_reducible refine Tst.ff ?_); conv => whnf) | ((with_reducible refine Tst.dec (fun _ => ?_) (fun _ => ?_)) <;> first | (exfalso; omega) | (conv => whnf)) | ((with_reducible refine Tst.not ?_)) | (refine Wit.conv ⟨by omega, by omega⟩ ?_; conv => whnf) | ((with_reducible refine IdxV.nat (by omega) ?_); conv => whnf) | ((with_reducible refine SameW.mk rfl ?_); conv => whnf) | ((with_reducible refine Tst.beqT ?_)) | ((with_reducible refine Tst.beqF ?_)) | (refine Tst.yes rfl ?_; conv => whnf) | (refine Tst.no rfl ?_; conv => whnf))); refine LoadV.mem (Mem.call (Mem.drew hm) hd) (i := 0) rfl rfl ?_; (conv => whnf); exact ⟨Ext.refl _, rfl⟩); (conv => whnf))
    apply StepD.still
    · intro wd hd
      (conv => whnf)
      have hmd := hm.drew.call hd
      rw [ha]
      refine CallV.of (ih1 wd (hp.ext hmd.ext) (by omega)) ?_
      rintro v w5 ⟨rfl, he⟩
      exact ⟨he, rfl⟩
    (conv => whnf)
    apply StepD.still
    · intro wd hd
      (conv => whnf)
      refine ⟨by show s.size + 1 ≤ _; have := z1 w hp; omega, ?_⟩
      (conv => whnf)
      exact ⟨Ext.refl _, rfl⟩
    (conv => whnf)
    (apply StepD.still; (· intro wd hd; (conv => whnf); (repeat (intro _ _; (conv => whnf))); (first | exact ⟨Ext.refl _, rfl⟩ | ((repeat' (first | (refine Obl.mk ⟨by omega, by omega⟩ ?_; conv => whnf) | (refine Obl.mk ⟨by omega, by omega, ⟨by omega, by omega⟩⟩ ?_; conv => whnf) | ((with_reducible refine Tst.tt ?_); conv => whnf) | ((with_reducible refine Tst.ff ?_); conv => whnf) | ((with_reducible refine Tst.dec (fun _ => ?_) (fun _ => ?_)) <;> first | (exfalso; omega) | (conv => whnf)) | ((with_reducible refine Tst.not ?_)) | (refine Wit.conv ⟨by omega, by omega⟩ ?_; conv => whnf) | ((with_reducible refine IdxV.nat (by omega) ?_); conv => whnf) | ((with_reducible refine SameW.mk rfl ?_); conv => whnf) | ((with_reducible refine Tst.beqT ?_)) | ((with_reducible refine Tst.beqF ?_)) | (refine Tst.yes rfl ?_; conv => whnf) | (refine Tst.no rfl ?_; conv => whnf))); exact ⟨Ext.refl _, rfl⟩))); (conv => whnf))
    (apply StepD.still; (· intro wd hd; (conv => whnf); (repeat (intro _ _; (conv => whnf))); (first | exact ⟨Ext.refl _, rfl⟩ | ((repeat' (first | (refine Obl.mk ⟨by omega, by omega⟩ ?_; conv => whnf) | (refine Obl.mk ⟨by omega, by omega, ⟨by omega, by omega⟩⟩ ?_; conv => whnf) | ((with_reducible refine Tst.tt ?_); conv => whnf) | ((with_reducible refine Tst.ff ?_); conv => whnf) | ((with_reducible refine Tst.dec (fun _ => ?_) (fun _ => ?_)) <;> first | (exfalso; omega) | (conv => whnf)) | ((with_reducible refine Tst.not ?_)) | (refine Wit.conv ⟨by omega, by omega⟩ ?_; conv => whnf) | ((with_reducible refine IdxV.nat (by omega) ?_); conv => whnf) | ((with_reducible refine SameW.mk rfl ?_); conv => whnf) | ((with_reducible refine Tst.beqT ?_)) | ((with_reducible refine Tst.beqF ?_)) | (refine Tst.yes rfl ?_; conv => whnf) | (refine Tst.no rfl ?_; conv => whnf))); exact ⟨Ext.refl _, rfl⟩))); (conv => whnf))
    (apply StepD.still; (· intro wd hd; (conv => whnf); (repeat' (first | (refine Obl.mk ⟨by omega, by omega⟩ ?_; conv => whnf) | (refine Obl.mk ⟨by omega, by omega, ⟨by omega, by omega⟩⟩ ?_; conv => whnf) | ((with_reducible refine Tst.tt ?_); conv => whnf) | ((with_reducible refine Tst.ff ?_); conv => whnf) | ((with_reducible refine Tst.dec (fun _ => ?_) (fun _ => ?_)) <;> first | (exfalso; omega) | (conv => whnf)) | ((with_reducible refine Tst.not ?_)) | (refine Wit.conv ⟨by omega, by omega⟩ ?_; conv => whnf) | ((with_reducible refine IdxV.nat (by omega) ?_); conv => whnf) | ((with_reducible refine SameW.mk rfl ?_); conv => whnf) | ((with_reducible refine Tst.beqT ?_)) | ((with_reducible refine Tst.beqF ?_)) | (refine Tst.yes rfl ?_; conv => whnf) | (refine Tst.no rfl ?_; conv => whnf))); refine LoadV.mem (Mem.call (Mem.drew hm) hd) (i := 0) rfl rfl ?_; (conv => whnf); exact ⟨Ext.refl _, rfl⟩); (conv => whnf))
    apply StepD.of (fun v w => ∃ ob, v = .slice (some ⟨ob, 0, none⟩) 1 1 ∧ SlAt V.encI 1 w (some ⟨ob, 0, none⟩) [4])
    · rintro v w w' ⟨ob, rfl, h⟩ he
      exact ⟨ob, rfl, h.ext he⟩
    · intro wd hd
      (conv => whnf)
      refine NewV.ext fun ob w' he hb => ?_
      (conv => whnf)
      exact ⟨he, ob, rfl, slInts hb rfl⟩
    (conv => whnf)
    apply StepD.still
    · intro wd hd
      (conv => whnf)
      rintro _ ⟨ob, rfl, hsl⟩
      (conv => whnf)
      have hmd := hm.drew.call hd
      refine CallV.of (within_any p A c b k _ t nb' [4] _ _ _ wd hb rfl (hp.ext hmd.ext) hnb hsl (by decide) ht (by omega) (fun w hp => ih2 w hp (by omega))) ?_
      rintro v w5 ⟨rfl, he⟩
      exact ⟨he, rfl⟩
    (conv => whnf)
    apply StepD.still
    · intro wd hd
      (conv => whnf)
      refine ⟨by show (s ++ bs [124]).size + (parB _ _).size ≤ _; rw [bsz]; show s.size + 1 + _ ≤ _; have := z1 w hp; have := z2 w hp; omega, ?_⟩
      (conv => whnf)
      exact ⟨Ext.refl _, rfl⟩
    (conv => whnf)
    (apply StepD.still; (· intro wd hd; (conv => whnf); (repeat (intro _ _; (conv => whnf))); (first | exact ⟨Ext.refl _, rfl⟩ | ((repeat' (first | (refine Obl.mk ⟨by omega, by omega⟩ ?_; conv => whnf) | (refine Obl.mk ⟨by omega, by omega, ⟨by omega, by omega⟩⟩ ?_; conv => whnf) | ((with_reducible refine Tst.tt ?_); conv => whnf) | ((with_reducible refine Tst.ff ?_); conv => whnf) | ((with_reducible refine Tst.dec (fun _ => ?_) (fun _ => ?_)) <;> first | (exfalso; omega) | (conv => whnf)) | ((with_reducible refine Tst.not ?_)) | (refine Wit.conv ⟨by omega, by omega⟩ ?_; conv => whnf) | ((with_reducible refine IdxV.nat (by omega) ?_); conv => whnf) | ((with_reducible refine SameW.mk rfl ?_); conv => whnf) | ((with_reducible refine Tst.beqT ?_)) | ((with_reducible refine Tst.beqF ?_)) | (refine Tst.yes rfl ?_; conv => whnf) | (refine Tst.no rfl ?_; conv => whnf))); exact ⟨Ext.refl _, rfl⟩))); (conv => whnf))
    intro wd hd
    (conv => whnf)
    intro v _
    (conv => whnf)
    exact ⟨rfl, (hm.drew.call hd).ext⟩
  | seq i n h hf ho a na m s ha hai hna hs b nb' k t hb hbi hnb ht ih1 ih2 =>
    have z1 := fun w (hp : PathAt w A p) => hs.size hp
    have z2 := fun w (hp : PathAt w A p) => ht.size hp
    have z3 := parB_size ([(4 : Int), 3].contains nb'.op) t
    have z4 := parB_size ([(4 : Int)].contains na.op) s
    intro w hp hm64
    have hil : i < p.length := (List.getElem?_eq_some_iff.1 h).1
    have hn : p[i] = n := (List.getElem?_eq_some_iff.1 h).2
    refine gv (by kernel_rfl) Tryz.func32 rfl Tryz.ntmps32 rfl ?_; conv => whnf
    refine ElemV.sl hp.sl rfl i rfl hil ?_
    intro eb off hc
    rw [hn] at hc
    (conv => whnf)
    refine LoadA.cells hc rfl ?_
    (conv => whnf)
    refine NewV.mem (Mem.nil w) ?_
    intro nb w2 hm
    (conv => whnf)
    refine StoreA.mem hm (i := 0) rfl (Nat.le_refl 6) (fun v hv => by simp at hv; rcases hv with rfl | rfl | rfl | rfl | rfl | rfl <;> rfl) ?_
    intro w3 hm
    replace hm : Mem w w3 [(nb, .cells (encN n).toArray 81 (0, 0))] := hm
    (conv => whnf)
    refine LoadV.mem hm (i := 0) rfl rfl ?_
    (conv => whnf)
    (repeat' (first
      | (refine Obl.mk ⟨by omega, by omega⟩ ?_; conv => whnf)
      | (refine Obl.mk ⟨by omega, by omega, ⟨by omega, by omega⟩⟩ ?_; conv => whnf)
      | ((with_reducible refine Tst.tt ?_); conv => whnf)
      | ((with_reducible refine Tst.ff ?_); conv => whnf)
      | ((with_reducible refine Tst.dec (fun _ => ?_) (fun _ => ?_)) <;> first | (exfalso; omega) | (conv => whnf))
      | ((with_reducible refine Tst.not ?_))
      | (refine Wit.conv ⟨by omega, by omega⟩ ?_; conv => whnf)
      | ((with_reducible refine IdxV.nat (by omega) ?_); conv => whnf)
      | ((with_reducible refine SameW.mk rfl ?_); conv => whnf)
      | (refine LoadV.mem (i := 0) (by assumption) rfl rfl ?_; conv => whnf)
      | (refine LoadV.mem (i := 1) (by assumption) rfl rfl ?_; conv => whnf)
      | (refine LoadV.mem (i := 2) (by assumption) rfl rfl ?_; conv => whnf)
      | ((with_reducible refine Tst.beqT ?_))
      | ((with_reducible refine Tst.beqF ?_))
      | (refine Tst.yes rfl ?_; conv => whnf)
      | (refine Tst.no rfl ?_; conv => whnf)))
    refine DrawV.free rfl (by kernel_rfl) ?_
    (conv => whnf)
    (apply StepD.still; (· intro wd hd; (conv => whnf); (repeat (intro _ _; (conv => whnf))); (first | exact ⟨Ext.refl _, rfl⟩ | ((repeat' (first | (refine Obl.mk ⟨by omega, by omega⟩ ?_; conv => whnf) | (refine Obl.mk ⟨by omega, by omega, ⟨by omega, by omega⟩⟩ ?_; conv => whnf) | ((with_reducible refine Tst.tt ?_); conv => whnf) | ((with_reducible refine Tst.ff ?_); conv => whnf) | ((with_reducible refine Tst.dec (fun _ => ?_) (fun _ => ?_)) <;> first | (exfalso; omega) | (conv => whnf)) | ((with_reducible refine Tst.not ?_)) | (refine Wit.conv ⟨by omega, by omega⟩ ?_; conv => whnf) | ((with_reducible refine IdxV.nat (by omega) ?_); conv => whnf) | ((with_reducible refine SameW.mk rfl ?_); conv => whnf) | ((with_reducible refine Tst.beqT ?_)) | ((with_reducible refine Tst.beqF ?_)) | (refine Tst.yes rfl ?_; conv => whnf) | (refine Tst.no rfl ?_; conv => whnf))); exact ⟨Ext.refl _, rfl⟩))); (conv => whnf))
    (apply StepD.still; (· intro wd hd; (conv => whnf); (repeat (intro _ _; (conv => whnf))); (first | exact ⟨Ext.refl _, rfl⟩ | ((repeat' (first | (refine Obl.mk ⟨by omega, by omega⟩ ?_; conv => whnf) | (refine Obl.mk ⟨by omega, by omega, ⟨by omega, by omega⟩⟩ ?_; conv => whnf) | ((with_reducible refine Tst.tt ?_); conv => whnf) | ((with_reducible refine Tst.ff ?_); conv => whnf) | ((with_reducible refine Tst.dec (fun _ => ?_) (fun _ => ?_)) <;> first | (exfalso; omega) | (conv => whnf)) | ((with_reducible refine Tst.not ?_)) | (refine Wit.conv ⟨by omega, by omega⟩ ?_; conv => whnf) | ((with_reducible refine IdxV.nat (by omega) ?_); conv => whnf) | ((with_reducible refine SameW.mk rfl ?_); conv => whnf) | ((with_reducible refine Tst.beqT ?_)) | ((with_reducible refine Tst.beqF ?_)) | (refine Tst.yes rfl ?_; conv => whnf) | (refine Tst.no rfl ?_; conv => whnf))); exact ⟨Ext.refl _, rfl⟩))); (conv => whnf))
    (apply StepD.still; (· intro wd hd; (conv => whnf); (repeat' (first | (refine Obl.mk ⟨by omega, by omega⟩ ?_; conv => whnf) | (refine Obl.mk ⟨by omega, by omega, ⟨by omega, by omega⟩⟩ ?_; conv => whnf) | ((with_reducible refine Tst.tt ?_); conv => whnf) | ((with_reducible refine Tst.ff ?_); conv => whnf) | ((with_reducible refine Tst.dec (fun _ => ?_) (fun _ => ?_)) <;> first | (exfalso; omega) | (conv => whnf)) | ((with_reducible refine Tst.not ?_)) | (refine Wit.conv ⟨by omega, by omega⟩ ?_; conv => whnf) | ((with_reducible refine IdxV.nat (by omega) ?_); conv => whnf) | ((with_reducible refine SameW.mk rfl ?_); conv => whnf) | ((with_reducible refine Tst.beqT ?_)) | ((with_reducible refine Tst.beqF ?_)) | (refine Tst.yes rfl ?_; conv => whnf) | (refine Tst.no rfl ?_; conv => whnf))); refine LoadV.mem (Mem.call (Mem.drew hm) hd) (i := 0) rfl rfl ?_; (conv => whnf); exact ⟨Ext.refl _, rfl⟩); (conv => whnf))
    apply StepD.of (fun v w => ∃ ob, v = .slice (some ⟨ob, 0, none⟩) 1 1 ∧ SlAt V.encI 1 w (some ⟨ob, 0, none⟩) [4])
    · rintro v w w' ⟨ob, rfl, h⟩ he
      exact ⟨ob, rfl, h.ext he⟩
    · intro wd hd
      (conv => whnf)
      refine NewV.ext fun ob w' he hb => ?_
      (conv => whnf)
      exact ⟨he, ob, rfl, slInts hb rfl⟩
    (conv => whnf)
    apply StepD.still
    · intro wd hd
      (conv => whnf)
      rintro _ ⟨ob, rfl, hsl⟩
      (conv => whnf)
      have hmd := hm.drew.call hd
      refine CallV.of (within_any p A c a m _ s na [4] _ _ _ wd ha rfl (hp.ext hmd.ext) hna hsl (by decide) hs (by omega) (fun w hp => ih1 w hp (by omega))) ?_
      rintro v w5 ⟨rfl, he⟩
      exact ⟨he, rfl⟩
    (conv => whnf)
    apply StepD.still
    · intro wd hd
      (conv => whnf)
      refine ⟨by show (parB _ _).size + 1 ≤ _; have := z1 w hp; omega, ?_⟩
      (conv => whnf)
      exact ⟨Ext.refl _, rfl⟩
    (conv => whnf)
    (apply StepD.still; (· intro wd hd; (conv => whnf); (repeat (intro _ _; (conv => whnf))); (first | exact ⟨Ext.refl _, rfl⟩ | ((repeat' (first | (refine Obl.mk ⟨by omega, by omega⟩ ?_; conv => whnf) | (refine Obl.mk ⟨by omega, by omega, ⟨by omega, by omega⟩⟩ ?_; conv => whnf) | ((with_reducible refine Tst.tt ?_); conv => whnf) | ((with_reducible refine Tst.ff ?_); conv => whnf) | ((with_reducible refine Tst.dec (fun _ => ?_) (fun _ => ?_)) <;> first | (exfalso; omega) | (conv => whnf)) | ((with_reducible refine Tst.not ?_)) | (refine Wit.conv ⟨by omega, by omega⟩ ?_; conv => whnf) | ((with_reducible refine IdxV.nat (by omega) ?_); conv => whnf) | ((with_reducible refine SameW.mk rfl ?_); conv => whnf) | ((with_reducible refine Tst.beqT ?_)) | ((with_reducible refine Tst.beqF ?_)) | (refine Tst.yes rfl ?_; conv => whnf) | (refine Tst.no rfl ?_; conv => whnf))); exact ⟨Ext.refl _, rfl⟩))); (conv => whnf))
    (apply StepD.still; (· intro wd hd; (conv => whnf); (repeat (intro _ _; (conv => whnf))); (first | exact ⟨Ext.refl _, rfl⟩ | ((repeat' (first | (refine Obl.mk ⟨by omega, by omega⟩ ?_; conv => whnf) | (refine Obl.mk ⟨by omega, by omega, ⟨by omega, by omega⟩⟩ ?_; conv => whnf) | ((with_reducible refine Tst.tt ?_); conv => whnf) | ((with_reducible refine Tst.ff ?_); conv => whnf) | ((with_reducible refine Tst.dec (fun _ => ?_) (fun _ => ?_)) <;> first | (exfalso; omega) | (conv => whnf)) | ((with_reducible refine Tst.not ?_)) | (refine Wit.conv ⟨by omega, by omega⟩ ?_; conv => whnf) | ((with_reducible refine IdxV.nat (by omega) ?_); conv => whnf) | ((with_reducible refine SameW.mk rfl ?_); conv => whnf) | ((with_reducible refine Tst.beqT ?_)) | ((with_reducible refine Tst.beqF ?_)) | (refine Tst.yes rfl ?_; conv => whnf) | (refine Tst.no rfl ?_; conv => whnf))); exact ⟨Ext.refl _, rfl⟩))); (conv => whnf))
    (apply StepD.still; (· intro wd hd; (conv => whnf); (repeat' (first | (refine Obl.mk ⟨by omega, by omega⟩ ?_; conv => whnf) | (refine Obl.mk ⟨by omega, by omega, ⟨by omega, by omega⟩⟩ ?_; conv => whnf) | ((with_reducible refine Tst.tt ?_); conv => whnf) | ((with_reducible refine Tst.ff ?_); conv => whnf) | ((with_reducible refine Tst.dec (fun _ => ?_) (fun _ => ?_)) <;> first | (exfalso; omega) | (conv => whnf)) | ((with_reducible refine Tst.not ?_)) | (refine Wit.conv ⟨by omega, by omega⟩ ?_; conv => whnf) | ((with_reducible refine IdxV.nat (by omega) ?_); conv => whnf) | ((with_reducible refine SameW.mk rfl ?_); conv => whnf) | ((with_reducible refine Tst.beqT ?_)) | ((with_reducible refine Tst.beqF ?_)) | (refine Tst.yes rfl ?_; conv => whnf) | (refine Tst.no rfl ?_; conv => whnf))); refine LoadV.mem (Mem.call (Mem.drew hm) hd) (i := 0) rfl rfl ?_; (conv => whnf); exact ⟨Ext.refl _, rfl⟩); (conv => whnf))
    apply StepD.of (fun v w => ∃ ob, v = .slice (some ⟨ob, 0, none⟩) 2 2 ∧ SlAt V.encI 1 w (some ⟨ob, 0, none⟩) [4, 3])
    · rintro v w w' ⟨ob, rfl, h⟩ he
      exact ⟨ob, rfl, h.ext he⟩
    · intro wd hd
      (conv => whnf)
      refine NewV.ext fun ob w' he hb => ?_
      (conv => whnf)
      exact ⟨he, ob, rfl, slInts hb rfl⟩
    (conv => whnf)
    apply StepD.still
    · intro wd hd
      (conv => whnf)
      rintro _ ⟨ob, rfl, hsl⟩
      (conv => whnf)
      have hmd := hm.drew.call hd
      refine CallV.of (within_any p A c b k _ t nb' [4, 3] _ _ _ wd hb rfl (hp.ext hmd.ext) hnb hsl (by decide) ht (by omega) (fun w hp => ih2 w hp (by omega))) ?_
      rintro v w5 ⟨rfl, he⟩
      exact ⟨he, rfl⟩
    (conv => whnf)
    apply StepD.still
    · intro wd hd
      (conv => whnf)
      refine ⟨by show (parB _ _ ++ bs [47]).size + (parB _ _).size ≤ _; rw [bsz]; show (parB _ _).size + 1 + _ ≤ _; have := z1 w hp; have := z2 w hp; omega, ?_⟩
      (conv => whnf)
      exact ⟨Ext.refl _, rfl⟩
    (conv => whnf)
    (apply StepD.still; (· intro wd hd; (conv => whnf); (repeat (intro _ _; (conv => whnf))); (first | exact ⟨Ext.refl _, rfl⟩ | ((repeat' (first | (refine Obl.mk ⟨by omega, by omega⟩ ?_; conv => whnf) | (refine Obl.mk ⟨by omega, by omega, ⟨by omega, by omega⟩⟩ ?_; conv => whnf) | ((with_reducible refine Tst.tt ?_); conv => whnf) | ((with_reducible refine Tst.ff ?_); conv => whnf) | ((with_reducible refine Tst.dec (fun _ => ?_) (fun _ => ?_)) <;> first | (exfalso; omega) | (conv => whnf)) | ((with_reducible refine Tst.not ?_)) | (refine Wit.conv ⟨by omega, by omega⟩ ?_; conv => whnf) | ((with_reducible refine IdxV.nat (by omega) ?_); conv => whnf) | ((with_reducible refine SameW.mk rfl ?_); conv => whnf) | ((with_reducible refine Tst.beqT ?_)) | ((with_reducible refine Tst.beqF ?_)) | (refine Tst.yes rfl ?_; conv => whnf) | (refine Tst.no rfl ?_; conv => whnf))); exact ⟨Ext.refl _, rfl⟩))); (conv => whnf))
    intro wd hd
    (conv => whnf)
    intro v _
    (conv => whnf)
    intro v _
    (conv => whnf)
    exact ⟨rfl, (hm.drew.call hd).ext⟩

theorem refPathText_any (p : List PN) (A : Option Addr) (c : Nat) (w : World) (hp : PathAt w A p) (m : Nat) (s : ByteArray) (hs : CheckP p → TxtR p (p.length - 1) m s ∧ m ≤ 64) (hs2 : ¬ CheckP p → s = bs []) :
    Gv Tryz.prog 9 [.slice A p.length c] w fun v w' => v = .tuple #[.string s, .int .i64 (pathE p)] ∧ Ext w w' := by
  have hl := hp.len
  have hck := refPathCheck_any p A c w hp.sl hp.ok (by omega)
  refine gv (by kernel_rfl) Tryz.func9 rfl Tryz.ntmps9 rfl ?_; conv => whnf
  refine CallV.of (hck) ?_
  rintro v w1 ⟨rfl, he⟩
  (conv => whnf)
  by_cases hP : CheckP p
  · rw [pathE_ok hP]
    (repeat' (first
      | (refine Obl.mk ⟨by omega, by omega⟩ ?_; conv => whnf)
      | (refine Obl.mk ⟨by omega, by omega, ⟨by omega, by omega⟩⟩ ?_; conv => whnf)
      | ((with_reducible refine Tst.tt ?_); conv => whnf)
      | ((with_reducible refine Tst.ff ?_); conv => whnf)
      | ((with_reducible refine Tst.dec (fun _ => ?_) (fun _ => ?_)) <;> first | (exfalso; omega) | (conv => whnf))
      | ((with_reducible refine Tst.not ?_))
      | (refine Wit.conv ⟨by omega, by omega⟩ ?_; conv => whnf)
      | ((with_reducible refine IdxV.nat (by omega) ?_); conv => whnf)
      | ((with_reducible refine SameW.mk rfl ?_); conv => whnf)
      | (refine LoadV.mem (i := 0) (by assumption) rfl rfl ?_; conv => whnf)
      | (refine LoadV.mem (i := 1) (by assumption) rfl rfl ?_; conv => whnf)
      | (refine LoadV.mem (i := 2) (by assumption) rfl rfl ?_; conv => whnf)
      | ((with_reducible refine Tst.beqT ?_))
      | ((with_reducible refine Tst.beqF ?_))
      | (refine Tst.yes rfl ?_; conv => whnf)
      | (refine Tst.no rfl ?_; conv => whnf)))
    obtain ⟨ht, hm⟩ := hs hP
    have hpos := hP.1
    have ht' := refText_any (A := A) (c := c) ht w1 (hp.ext he) hm
    rw [show ((p.length - 1 : Nat) : Int) = (p.length : Int) - 1 by omega] at ht'
    refine CallV.of (ht') ?_
    rintro v w2 ⟨rfl, he2⟩
    (conv => whnf)
    exact ⟨rfl, he.trans he2⟩
  · rw [pathE_no hP]
    (repeat' (first
      | (refine Obl.mk ⟨by omega, by omega⟩ ?_; conv => whnf)
      | (refine Obl.mk ⟨by omega, by omega, ⟨by omega, by omega⟩⟩ ?_; conv => whnf)
      | ((with_reducible refine Tst.tt ?_); conv => whnf)
      | ((with_reducible refine Tst.ff ?_); conv => whnf)
      | ((with_reducible refine Tst.dec (fun _ => ?_) (fun _ => ?_)) <;> first | (exfalso; omega) | (conv => whnf))
      | ((with_reducible refine Tst.not ?_))
      | (refine Wit.conv ⟨by omega, by omega⟩ ?_; conv => whnf)
      | ((with_reducible refine IdxV.nat (by omega) ?_); conv => whnf)
      | ((with_reducible refine SameW.mk rfl ?_); conv => whnf)
      | (refine LoadV.mem (i := 0) (by assumption) rfl rfl ?_; conv => whnf)
      | (refine LoadV.mem (i := 1) (by assumption) rfl rfl ?_; conv => whnf)
      | (refine LoadV.mem (i := 2) (by assumption) rfl rfl ?_; conv => whnf)
      | ((with_reducible refine Tst.beqT ?_))
      | ((with_reducible refine Tst.beqF ?_))
      | (refine Tst.yes rfl ?_; conv => whnf)
      | (refine Tst.no rfl ?_; conv => whnf)))
    exact ⟨by rw [hs2 hP]; rfl, he⟩
end Go.Proofs.YtajgbepghniciaaGreatDoor
