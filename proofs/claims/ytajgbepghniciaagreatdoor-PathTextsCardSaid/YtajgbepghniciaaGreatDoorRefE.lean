/- The document's Escape, terms' texts. -/
import Derived.Test.YtajgbepghniciaaGreatDoorRef5
import Derived.Test.YtajgbepghniciaaGreatDoorRes
namespace Go.Proofs.YtajgbepghniciaaGreatDoor
open Go.RowKit V
set_option maxRecDepth 100000

theorem refWritten_plain (r : Nat) (h : r ≤ 1114111) (hb : barR r = false) (w : World) :
    Gv Tryz.prog 247 [.int .i64 r, .int .i64 2] w fun v w' => v = .string ⟨(encL r).toArray⟩ ∧ Ext w w' := by
  have h32 : ¬ r ≤ 32 := by
    intro hr
    have : (UInt8.ofNat r).toNat = r := by rw [UInt8.toNat_ofNat']; omega
    simp [barR, barB, this] at hb; omega
  have hno : ∀ i, i < 9 → (gb signs i).toNat ≠ r := fun i hi he => by
    have hm : gb signs i ∈ signs.data.toList := by
      have : ∀ i : Fin 9, gb signs i.1 ∈ signs.data.toList := by decide
      exact this ⟨i, hi⟩
    have hr : r < 128 := by have := signs_all _ hm; omega
    have : UInt8.ofNat r = gb signs i := by rw [← he]; simp
    simp [barR, barB, hr, this] at hb
    exact absurd (by simpa using hm) hb.2
  refine gv (by kernel_rfl) Tryz.func247 rfl Tryz.ntmps247 rfl ?_; conv => whnf
  (repeat' (first
      | (refine Obl.mk ⟨by omega, by omega⟩ ?_; conv => whnf)
      | (refine Obl.mk ⟨by omega, by omega, ⟨by omega, by omega⟩⟩ ?_; conv => whnf)
      | ((with_reducible refine Tst.tt ?_); conv => whnf)
      | ((with_reducible refine Tst.ff ?_); conv => whnf)
      | ((with_reducible refine Tst.dec (fun _ => ?_) (fun _ => ?_)) <;> first | (exfalso; omega) | (conv => whnf))
      | ((with_reducible refine Tst.not ?_))
      | (refine Wit.conv ⟨by omega, by omega⟩ ?_; conv => whnf)
      | ((with_reducible refine IdxV.nat (by omega) ?_); conv => whnf)
      | ((with_reducible refine SameW.mk rfl ?_); conv => whnf)
      | (refine LoadV.mem (i := 0) (by assumption) rfl rfl ?_; conv => whnf)
      | (refine LoadV.mem (i := 1) (by assumption) rfl rfl ?_; conv => whnf)
      | (refine LoadV.mem (i := 2) (by assumption) rfl rfl ?_; conv => whnf)
      | ((with_reducible refine Tst.beqT ?_))
      | ((with_reducible refine Tst.beqF ?_))
      | (refine Tst.yes rfl ?_; conv => whnf)
      | (refine Tst.no rfl ?_; conv => whnf)))
  refine loopV (fun i : Nat => [(0, .int .i64 r), (6, .bool false), (7, .int .i64 i)]) (fun i w1 => i ≤ 9 ∧ w1 = w) (fun i => 9 - i) 0 ⟨rfl, ?_, rfl, trivial⟩ ⟨by omega, rfl⟩ ?_
  · show Value.bool (decide _) = _; rw [decide_eq_false (by omega)]
  rintro i w1 ρ' ⟨hi, rfl⟩
  (conv => whnf)
  (repeat' (first
      | (refine Obl.mk ⟨by omega, by omega⟩ ?_; conv => whnf)
      | (refine Obl.mk ⟨by omega, by omega, ⟨by omega, by omega⟩⟩ ?_; conv => whnf)
      | ((with_reducible refine Tst.tt ?_); conv => whnf)
      | ((with_reducible refine Tst.ff ?_); conv => whnf)
      | ((with_reducible refine Tst.dec (fun _ => ?_) (fun _ => ?_)) <;> first | (exfalso; omega) | (conv => whnf))
      | ((with_reducible refine Tst.not ?_))
      | (refine Wit.conv ⟨by omega, by omega⟩ ?_; conv => whnf)
      | ((with_reducible refine IdxV.nat (by omega) ?_); conv => whnf)
      | ((with_reducible refine SameW.mk rfl ?_); conv => whnf)
      | (refine LoadV.mem (i := 0) (by assumption) rfl rfl ?_; conv => whnf)
      | (refine LoadV.mem (i := 1) (by assumption) rfl rfl ?_; conv => whnf)
      | (refine LoadV.mem (i := 2) (by assumption) rfl rfl ?_; conv => whnf)
      | ((with_reducible refine Tst.beqT ?_))
      | ((with_reducible refine Tst.beqF ?_))
      | (refine Tst.yes rfl ?_; conv => whnf)
      | (refine Tst.no rfl ?_; conv => whnf)))
  · refine IdxV.at_ i rfl (by show i < 9; omega) ?_
    have hlt : (gb signs i).toNat < 256 := (gb signs i).toNat_lt
    change ((gb ⟨#[60, 62, 34, 123, 125, 124, 94, 96, 92]⟩ i).toNat < 256) at hlt
    (conv => whnf)
    (repeat' (first
      | (refine Obl.mk ⟨by omega, by omega⟩ ?_; conv => whnf)
      | (refine Obl.mk ⟨by omega, by omega, ⟨by omega, by omega⟩⟩ ?_; conv => whnf)
      | ((with_reducible refine Tst.tt ?_); conv => whnf)
      | ((with_reducible refine Tst.ff ?_); conv => whnf)
      | ((with_reducible refine Tst.dec (fun _ => ?_) (fun _ => ?_)) <;> first | (exfalso; omega) | (conv => whnf))
      | ((with_reducible refine Tst.not ?_))
      | (refine Wit.conv ⟨by omega, by omega⟩ ?_; conv => whnf)
      | ((with_reducible refine IdxV.nat (by omega) ?_); conv => whnf)
      | ((with_reducible refine SameW.mk rfl ?_); conv => whnf)
      | (refine LoadV.mem (i := 0) (by assumption) rfl rfl ?_; conv => whnf)
      | (refine LoadV.mem (i := 1) (by assumption) rfl rfl ?_; conv => whnf)
      | (refine LoadV.mem (i := 2) (by assumption) rfl rfl ?_; conv => whnf)
      | ((with_reducible refine Tst.beqT ?_))
      | ((with_reducible refine Tst.beqF ?_))
      | (refine Tst.yes rfl ?_; conv => whnf)
      | (refine Tst.no rfl ?_; conv => whnf)))
    refine ⟨i + 1, ⟨rfl, ?_, rfl, trivial⟩, ⟨by omega, rfl⟩, by omega⟩
    show Value.bool (decide _) = _
    rw [decide_eq_false]
    intro he
    exact hno i (by omega) (by have : ((gb signs i).toNat : Int) = r := he; omega)
  · refine CallV.of (refBytes_any r h _) ?_
    rintro v w2 ⟨b, rfl, hc, he⟩
    (conv => whnf)
    refine BytesS.all hc rfl ?_
    (conv => whnf)
    exact ⟨rfl, he⟩

namespace V
theorem BytesS.rw {w0 w : World} {A : Option Addr} {c n : Nat} {e : TypeId} {l : List UInt8} {L : List (Nat × Obj)} {K : Value → Prop} (h : Rw w0 w (.slice A n c) e 1 n (byteCells l) L) (hk : K (.string ⟨l.toArray⟩)) : BytesS w A n K := by
  have hn : l.length = n := by have := h.len; simpa [byteCells] using this
  refine ⟨l, hn, fun hne => ?_, hk⟩
  have : 0 < l.length := List.length_pos_iff.2 hne
  obtain ⟨g, e1, _, _, _, hc⟩ := h.cells (by omega)
  exact ⟨g, 0, e1, hc⟩
end V
def faultV : Value := .agg #[.int .i64 0, .int .i64 0]
theorem refEscape_plain (s : ByteArray) (hs : s.size ≤ 140737488355328) (hv : scal s.data.toList ≠ none) (hu : unb s) (w : World) :
    Gv Tryz.prog 197 [.string s, .int .i64 2] w fun v w' => v = .tuple #[.string s, faultV] ∧ Ext w w' := by
  refine gv (by kernel_rfl) Tryz.func197 rfl Tryz.ntmps197 rfl ?_; conv => whnf
  refine NewV.mem (Mem.nil w) ?_
  intro fb w1 hm
  (conv => whnf)
  refine CallV.of (refCheck_any s hs w1) ?_
  rintro v w2 ⟨⟨i, rfl, _, h1, _⟩, he⟩
  have hm := hm.call he
  obtain rfl := h1 hv
  (conv => whnf)
  (repeat' (first
      | (refine Obl.mk ⟨by omega, by omega⟩ ?_; conv => whnf)
      | (refine Obl.mk ⟨by omega, by omega, ⟨by omega, by omega⟩⟩ ?_; conv => whnf)
      | ((with_reducible refine Tst.tt ?_); conv => whnf)
      | ((with_reducible refine Tst.ff ?_); conv => whnf)
      | ((with_reducible refine Tst.dec (fun _ => ?_) (fun _ => ?_)) <;> first | (exfalso; omega) | (conv => whnf))
      | ((with_reducible refine Tst.not ?_))
      | (refine Wit.conv ⟨by omega, by omega⟩ ?_; conv => whnf)
      | ((with_reducible refine IdxV.nat (by omega) ?_); conv => whnf)
      | ((with_reducible refine SameW.mk rfl ?_); conv => whnf)
      | (refine LoadV.mem (i := 0) (by assumption) rfl rfl ?_; conv => whnf)
      | (refine LoadV.mem (i := 1) (by assumption) rfl rfl ?_; conv => whnf)
      | (refine LoadV.mem (i := 2) (by assumption) rfl rfl ?_; conv => whnf)
      | ((with_reducible refine Tst.beqT ?_))
      | ((with_reducible refine Tst.beqF ?_))
      | (refine Tst.yes rfl ?_; conv => whnf)
      | (refine Tst.no rfl ?_; conv => whnf)))
  refine loopV (fun x : Nat × Option Addr × Nat => [(0, .string s), (1, .int .i64 2), (5, .pointer (some ⟨fb, 0, none⟩)), (6, .int .i64 x.1), (7, .slice x.2.1 x.1 x.2.2)])
    (fun x w3 => x.1 ≤ s.size ∧ Rw w w3 (.slice x.2.1 x.1 x.2.2) 5 1 x.1 (byteCells (s.data.toList.take x.1)) [(fb, .cells #[.int .i64 0, .int .i64 0] 308 (0, 0))] ∧ scal (s.data.toList.drop x.1) ≠ none)
    (fun x => s.size - x.1) (0, none, 0) ⟨rfl, rfl, rfl, rfl, rfl, trivial⟩ ⟨by simp, Rw.nil hm, hv⟩ ?_
  rintro ⟨pos, A, c⟩ w3 ρ' ⟨hp, hR, hsc⟩
  simp only at hp hR hsc
  dsimp only
  (conv => whnf)
  (repeat' (first
      | (refine Obl.mk ⟨by omega, by omega⟩ ?_; conv => whnf)
      | (refine Obl.mk ⟨by omega, by omega, ⟨by omega, by omega⟩⟩ ?_; conv => whnf)
      | ((with_reducible refine Tst.tt ?_); conv => whnf)
      | ((with_reducible refine Tst.ff ?_); conv => whnf)
      | ((with_reducible refine Tst.dec (fun _ => ?_) (fun _ => ?_)) <;> first | (exfalso; omega) | (conv => whnf))
      | ((with_reducible refine Tst.not ?_))
      | (refine Wit.conv ⟨by omega, by omega⟩ ?_; conv => whnf)
      | ((with_reducible refine IdxV.nat (by omega) ?_); conv => whnf)
      | ((with_reducible refine SameW.mk rfl ?_); conv => whnf)
      | (refine LoadV.mem (i := 0) (by assumption) rfl rfl ?_; conv => whnf)
      | (refine LoadV.mem (i := 1) (by assumption) rfl rfl ?_; conv => whnf)
      | (refine LoadV.mem (i := 2) (by assumption) rfl rfl ?_; conv => whnf)
      | ((with_reducible refine Tst.beqT ?_))
      | ((with_reducible refine Tst.beqF ?_))
      | (refine Tst.yes rfl ?_; conv => whnf)
      | (refine Tst.no rfl ?_; conv => whnf)))
  · have hlt : pos < s.size := by omega
    have hn0 : (decN (s.data.toList.drop pos)).2 ≠ 0 := fun h0 => hsc (scal_none (drop_ne s pos hlt) h0)
    obtain ⟨e1, e2, e3⟩ := decN_enc hn0
    have hle := decN_le (s.data.toList.drop pos)
    rw [drop_len] at hle
    have hnx := refNext_any s pos hlt hs w3
    obtain ⟨r, hr⟩ : ∃ r, r = (decN (s.data.toList.drop pos)).1 := ⟨_, rfl⟩
    obtain ⟨n, hn⟩ : ∃ n, n = (decN (s.data.toList.drop pos)).2 := ⟨_, rfl⟩
    rw [← hr, ← hn] at e2 e3 hnx
    rw [← hr] at e1
    rw [← hn] at hn0 hle
    have hr1 : r ≤ 1114111 := by simp [scalarB] at e1; omega
    have hbar : barR r = false := by
      unfold barR
      by_cases h128 : r < 128
      · have hg : UInt8.ofNat r = gb s pos := by
          have e4 : encL r = [UInt8.ofNat r] := by unfold encL; rw [if_pos h128]
          rw [e4] at e2 e3
          simp only [List.length_cons, List.length_nil] at e3
          rw [← e3, drop_get s pos hlt] at e2
          simpa using e2
        rw [hg, unb_at hu pos hlt]; simp
      · simp [h128]
    refine CallV.of (hnx) ?_
    rintro v w4 ⟨rfl, he4⟩
    (conv => whnf)
    refine CallV.of (refWritten_plain r hr1 hbar _) ?_
    rintro v w5 ⟨rfl, he5⟩
    (conv => whnf)
    have hsz : (⟨(encL r).toArray⟩ : ByteArray).size = n := by rw [← e3]; rfl
    refine AppV.rwS (i := _) Tryz.underlying45 Tryz.underlying9 (Option.some_get (by kernel_rfl)).symm (by kernel_rfl) (by kernel_rfl) (by kernel_rfl) ((hR.call he4).call he5) (fun x hx c fz => by simp at hx; subst hx; simp) (by omega) fun v' w6 hR6 => ?_
    obtain ⟨A', c', rfl⟩ := hR6.slice
    (conv => whnf)
    (repeat' (first
      | (refine Obl.mk ⟨by omega, by omega⟩ ?_; conv => whnf)
      | (refine Obl.mk ⟨by omega, by omega, ⟨by omega, by omega⟩⟩ ?_; conv => whnf)
      | ((with_reducible refine Tst.tt ?_); conv => whnf)
      | ((with_reducible refine Tst.ff ?_); conv => whnf)
      | ((with_reducible refine Tst.dec (fun _ => ?_) (fun _ => ?_)) <;> first | (exfalso; omega) | (conv => whnf))
      | ((with_reducible refine Tst.not ?_))
      | (refine Wit.conv ⟨by omega, by omega⟩ ?_; conv => whnf)
      | ((with_reducible refine IdxV.nat (by omega) ?_); conv => whnf)
      | ((with_reducible refine SameW.mk rfl ?_); conv => whnf)
      | (refine LoadV.mem (i := 0) (by assumption) rfl rfl ?_; conv => whnf)
      | (refine LoadV.mem (i := 1) (by assumption) rfl rfl ?_; conv => whnf)
      | (refine LoadV.mem (i := 2) (by assumption) rfl rfl ?_; conv => whnf)
      | ((with_reducible refine Tst.beqT ?_))
      | ((with_reducible refine Tst.beqF ?_))
      | (refine Tst.yes rfl ?_; conv => whnf)
      | (refine Tst.no rfl ?_; conv => whnf)))
    rw [hsz] at hR6 
    refine ⟨(pos + n, A', c'), ⟨rfl, rfl, rfl, rfl, ?_, trivial⟩, ⟨by simp only; omega, ?_, ?_⟩, by simp only; omega⟩
    · show Value.slice _ _ _ = .slice _ _ _; rw [hsz]
    · simp only
      rw [List.take_add, ← e2, byteCells_append']
      exact hR6
    · simp only
      rw [scal_step (drop_ne s pos hlt) (by rw [← hn]; exact hn0), ← hn, List.drop_drop] at hsc
      intro h0; rw [h0] at hsc; exact hsc rfl
  · obtain rfl : pos = s.size := by omega
    rw [List.take_of_length_le (by simp)] at hR
    refine BytesS.rw hR ?_
    (conv => whnf)
    refine StoreA.mem hR.mem (i := 0) rfl (Nat.le_refl 2) (fun v hv => by simp at hv; subst hv; rfl) ?_
    intro w4 hm4
    (conv => whnf)
    refine res_any (R := fun v w' => v = .tuple #[.string s, faultV] ∧ Ext w w') ?_
    (conv => whnf)
    refine LoadA.mem hm4 (i := 0) rfl rfl ?_
    (conv => whnf)
    exact ⟨rfl, hm4.ext⟩

theorem refAngled_plain (s : ByteArray) (hs : iriE s = 0) (w : World) :
    Gv Tryz.prog 196 [.string s] w fun v w' => v = .string (angT s) ∧ Ext w w' := by
  obtain ⟨h1, h2, h3⟩ := iriE_ok hs
  refine gv (by kernel_rfl) Tryz.func196 rfl Tryz.ntmps196 rfl ?_; conv => whnf
  refine CallV.of (refEscape_plain s (by omega) h2 h3 w) ?_
  rintro v w1 ⟨rfl, he⟩
  (conv => whnf)
  refine NewV.mem (Mem.nil w1) ?_
  intro b w2 hm
  (conv => whnf)
  refine StoreA.mem hm (i := 0) rfl (Nat.le_refl 2) (fun v hv => by simp at hv; subst hv; rfl) ?_
  intro w4 hm4
  (conv => whnf)
  refine ⟨by show (1 : Nat) + s.size ≤ _; omega, ?_⟩
  (conv => whnf)
  refine ⟨by show (_ : ByteArray).size + 1 ≤ _; rw [ByteArray.size_append]; show 1 + s.size + 1 ≤ _; omega, ?_⟩
  (conv => whnf)
  exact ⟨rfl, he.trans hm4.ext⟩
theorem refTermCheck_iri (s : ByteArray) (hs : s.size ≤ 140737488355328) (w : World) :
    Gv Tryz.prog 90 [.agg #[.int .i64 1, .string s, .string ⟨#[]⟩, .string ⟨#[]⟩]] w fun v w' => v = .int .i64 (iriE s) ∧ Ext w w' := by
  refine gv (by kernel_rfl) Tryz.func90 rfl Tryz.ntmps90 rfl ?_; conv => whnf
  refine NewV.mem (Mem.nil w) ?_
  intro b w1 hm
  (conv => whnf)
  (repeat' (first
      | (refine Obl.mk ⟨by omega, by omega⟩ ?_; conv => whnf)
      | (refine Obl.mk ⟨by omega, by omega, ⟨by omega, by omega⟩⟩ ?_; conv => whnf)
      | ((with_reducible refine Tst.tt ?_); conv => whnf)
      | ((with_reducible refine Tst.ff ?_); conv => whnf)
      | ((with_reducible refine Tst.dec (fun _ => ?_) (fun _ => ?_)) <;> first | (exfalso; omega) | (conv => whnf))
      | ((with_reducible refine Tst.not ?_))
      | (refine Wit.conv ⟨by omega, by omega⟩ ?_; conv => whnf)
      | ((with_reducible refine IdxV.nat (by omega) ?_); conv => whnf)
      | ((with_reducible refine SameW.mk rfl ?_); conv => whnf)
      | (refine LoadV.mem (i := 0) (by assumption) rfl rfl ?_; conv => whnf)
      | (refine LoadV.mem (i := 1) (by assumption) rfl rfl ?_; conv => whnf)
      | (refine LoadV.mem (i := 2) (by assumption) rfl rfl ?_; conv => whnf)
      | ((with_reducible refine Tst.beqT ?_))
      | ((with_reducible refine Tst.beqF ?_))
      | (refine Tst.yes rfl ?_; conv => whnf)
      | (refine Tst.no rfl ?_; conv => whnf)))
  refine CallV.of (refIriCheck_any s hs _) ?_
  rintro v w2 ⟨rfl, he⟩
  (conv => whnf)
  exact ⟨rfl, hm.ext.trans he⟩
theorem refTermText_iri (s : ByteArray) (hs : iriE s = 0) (w : World) :
    Gv Tryz.prog 125 [.agg #[.int .i64 1, .string s, .string ⟨#[]⟩, .string ⟨#[]⟩]] w fun v w' => v = .tuple #[.string (angT s), .int .i64 0] ∧ Ext w w' := by
  obtain ⟨h1, h2, h3⟩ := iriE_ok hs
  have hck := fun w => refTermCheck_iri s (by omega) w
  rw [hs] at hck
  refine gv (by kernel_rfl) Tryz.func125 rfl Tryz.ntmps125 rfl ?_; conv => whnf
  refine NewV.mem (Mem.nil w) ?_
  intro b w1 hm
  (conv => whnf)
  refine LoadA.mem hm (i := 0) rfl rfl ?_
  (conv => whnf)
  refine CallV.of (hck w1) ?_
  rintro v w2 ⟨rfl, he⟩
  have hm2 := hm.call he
  (conv => whnf)
  (repeat' (first
      | (refine Obl.mk ⟨by omega, by omega⟩ ?_; conv => whnf)
      | (refine Obl.mk ⟨by omega, by omega, ⟨by omega, by omega⟩⟩ ?_; conv => whnf)
      | ((with_reducible refine Tst.tt ?_); conv => whnf)
      | ((with_reducible refine Tst.ff ?_); conv => whnf)
      | ((with_reducible refine Tst.dec (fun _ => ?_) (fun _ => ?_)) <;> first | (exfalso; omega) | (conv => whnf))
      | ((with_reducible refine Tst.not ?_))
      | (refine Wit.conv ⟨by omega, by omega⟩ ?_; conv => whnf)
      | ((with_reducible refine IdxV.nat (by omega) ?_); conv => whnf)
      | ((with_reducible refine SameW.mk rfl ?_); conv => whnf)
      | (refine LoadV.mem (i := 0) (by assumption) rfl rfl ?_; conv => whnf)
      | (refine LoadV.mem (i := 1) (by assumption) rfl rfl ?_; conv => whnf)
      | (refine LoadV.mem (i := 2) (by assumption) rfl rfl ?_; conv => whnf)
      | ((with_reducible refine Tst.beqT ?_))
      | ((with_reducible refine Tst.beqF ?_))
      | (refine Tst.yes rfl ?_; conv => whnf)
      | (refine Tst.no rfl ?_; conv => whnf)))
  refine CallV.of (refAngled_plain s hs w2) ?_
  rintro v w3 ⟨rfl, he3⟩
  (conv => whnf)
  exact ⟨rfl, hm2.ext.trans he3⟩
theorem refNamed_any (s : ByteArray) (w : World) :
    Gv Tryz.prog 126 [.string s] w fun v w' => v = .agg #[.int .i64 1, .string s, .string ⟨#[]⟩, .string ⟨#[]⟩] ∧ Ext w w' := by
  refine gv (by kernel_rfl) Tryz.func126 rfl Tryz.ntmps126 rfl ?_; conv => whnf
  refine NewV.mem (Mem.nil w) ?_
  intro b w1 hm
  (conv => whnf)
  refine StoreA.mem hm (i := 0) rfl (Nat.le_refl 4) (fun v hv => by simp at hv; rcases hv with rfl | rfl | rfl <;> rfl) ?_
  intro w2 hm2
  (conv => whnf)
  refine res_any (R := fun v w' => v = .agg #[.int .i64 1, .string s, .string ⟨#[]⟩, .string ⟨#[]⟩] ∧ Ext w w') ?_
  (conv => whnf)
  refine LoadA.mem hm2 (i := 0) rfl rfl ?_
  (conv => whnf)
  exact ⟨rfl, hm2.ext⟩
theorem refIri_plain (s : ByteArray) (hs : iriE s = 0) (w : World) :
    Gv Tryz.prog 73 [.string s] w fun v w' => v = .string (angT s) ∧ Ext w w' := by
  refine gv (by kernel_rfl) Tryz.func73 rfl Tryz.ntmps73 rfl ?_; conv => whnf
  refine CallV.of (refNamed_any s w) ?_
  rintro v w1 ⟨rfl, he⟩
  (conv => whnf)
  refine CallV.of (refTermText_iri s hs w1) ?_
  rintro v w2 ⟨rfl, he2⟩
  (conv => whnf)
  exact ⟨rfl, he.trans he2⟩
end Go.Proofs.YtajgbepghniciaaGreatDoor
