/- Lemmas and contracts of functions on the way to the law's card (part 15 of 17). -/
import Derived.Test.YtajgbepghniciaaGreatDoorJC14
import Derived.Sort.OwnSorted
import Derived.Lib.RowBridge
namespace Go.Proofs.YtajgbepghniciaaGreatDoor
open Go.RowKit V
set_option maxRecDepth 100000
def ptrs (b : Nat) : List Value := [.pointer (some ⟨b, 0, none⟩), .pointer (some ⟨b, 5, none⟩), .pointer (some ⟨b, 10, none⟩), .pointer (some ⟨b, 15, none⟩)]
theorem ptrs_one (b : Nat) : ∀ v ∈ ptrs b, v.oneCell' = true := by
  intro v hv
  simp only [ptrs, List.mem_cons, List.not_mem_nil, or_false] at hv
  rcases hv with rfl | rfl | rfl | rfl <;> rfl
theorem slots_any (b : Nat) (w : World) : Gv Tryz.prog 37 [.pointer (some ⟨b, 0, none⟩)] w fun v w' => v = .agg (ptrs b).toArray ∧ Ext w w' := by
  refine gv (by kernel_rfl) Tryz.func37 rfl Tryz.ntmps37 rfl ?_; conv => whnf
  refine NewV.mem (Mem.nil w) ?_
  intro r w1 hm
  (conv => whnf)
  refine DrawV.inv (fun S w' => (S 13 = false ∧ Mem w w' [(r, .cells #[.pointer none, .pointer none, .pointer none, .pointer none] 92 (0, 0))]) ∨ (S 13 = true ∧ Mem w w' [(r, .cells (ptrs b).toArray 92 (0, 0))])) rfl (by kernel_rfl) (.inl ⟨rfl, hm.drew⟩) ?_
  (conv => whnf)
  (apply StepI.of; (· intro S wd hk hp hI; (conv => whnf); (first | exact ⟨rfl, hI⟩ | ((repeat' (first | (refine Obl.mk ⟨by omega, by omega⟩ ?_; conv => whnf) | (refine Obl.mk ⟨by omega, by omega, ⟨by omega, by omega⟩⟩ ?_; conv => whnf) | ((with_reducible refine Tst.tt ?_); conv => whnf) | ((with_reducible refine Tst.ff ?_); conv => whnf) | ((with_reducible refine Tst.dec (fun _ => ?_) (fun _ => ?_)) <;> first | (exfalso; omega) | (conv => whnf)) | ((with_reducible refine Tst.not ?_)) | (refine Wit.conv ⟨by omega, by omega⟩ ?_; conv => whnf) | ((with_reducible refine IdxV.nat (by omega) ?_); conv => whnf) | ((with_reducible refine SameW.mk rfl ?_); conv => whnf) | ((with_reducible refine Tst.beqT ?_)) | ((with_reducible refine Tst.beqF ?_)) | (refine Tst.yes rfl ?_; conv => whnf) | (refine Tst.no rfl ?_; conv => whnf))); exact ⟨rfl, hI⟩))); (conv => whnf))
  (apply StepI.of; (· intro S wd hk hp hI; (conv => whnf); (first | exact ⟨rfl, hI⟩ | ((repeat' (first | (refine Obl.mk ⟨by omega, by omega⟩ ?_; conv => whnf) | (refine Obl.mk ⟨by omega, by omega, ⟨by omega, by omega⟩⟩ ?_; conv => whnf) | ((with_reducible refine Tst.tt ?_); conv => whnf) | ((with_reducible refine Tst.ff ?_); conv => whnf) | ((with_reducible refine Tst.dec (fun _ => ?_) (fun _ => ?_)) <;> first | (exfalso; omega) | (conv => whnf)) | ((with_reducible refine Tst.not ?_)) | (refine Wit.conv ⟨by omega, by omega⟩ ?_; conv => whnf) | ((with_reducible refine IdxV.nat (by omega) ?_); conv => whnf) | ((with_reducible refine SameW.mk rfl ?_); conv => whnf) | ((with_reducible refine Tst.beqT ?_)) | ((with_reducible refine Tst.beqF ?_)) | (refine Tst.yes rfl ?_; conv => whnf) | (refine Tst.no rfl ?_; conv => whnf))); exact ⟨rfl, hI⟩))); (conv => whnf))
  (apply StepI.of; (· intro S wd hk hp hI; (conv => whnf); (first | exact ⟨rfl, hI⟩ | ((repeat' (first | (refine Obl.mk ⟨by omega, by omega⟩ ?_; conv => whnf) | (refine Obl.mk ⟨by omega, by omega, ⟨by omega, by omega⟩⟩ ?_; conv => whnf) | ((with_reducible refine Tst.tt ?_); conv => whnf) | ((with_reducible refine Tst.ff ?_); conv => whnf) | ((with_reducible refine Tst.dec (fun _ => ?_) (fun _ => ?_)) <;> first | (exfalso; omega) | (conv => whnf)) | ((with_reducible refine Tst.not ?_)) | (refine Wit.conv ⟨by omega, by omega⟩ ?_; conv => whnf) | ((with_reducible refine IdxV.nat (by omega) ?_); conv => whnf) | ((with_reducible refine SameW.mk rfl ?_); conv => whnf) | ((with_reducible refine Tst.beqT ?_)) | ((with_reducible refine Tst.beqF ?_)) | (refine Tst.yes rfl ?_; conv => whnf) | (refine Tst.no rfl ?_; conv => whnf))); exact ⟨rfl, hI⟩))); (conv => whnf))
  (apply StepI.of; (· intro S wd hk hp hI; (conv => whnf); (first | exact ⟨rfl, hI⟩ | ((repeat' (first | (refine Obl.mk ⟨by omega, by omega⟩ ?_; conv => whnf) | (refine Obl.mk ⟨by omega, by omega, ⟨by omega, by omega⟩⟩ ?_; conv => whnf) | ((with_reducible refine Tst.tt ?_); conv => whnf) | ((with_reducible refine Tst.ff ?_); conv => whnf) | ((with_reducible refine Tst.dec (fun _ => ?_) (fun _ => ?_)) <;> first | (exfalso; omega) | (conv => whnf)) | ((with_reducible refine Tst.not ?_)) | (refine Wit.conv ⟨by omega, by omega⟩ ?_; conv => whnf) | ((with_reducible refine IdxV.nat (by omega) ?_); conv => whnf) | ((with_reducible refine SameW.mk rfl ?_); conv => whnf) | ((with_reducible refine Tst.beqT ?_)) | ((with_reducible refine Tst.beqF ?_)) | (refine Tst.yes rfl ?_; conv => whnf) | (refine Tst.no rfl ?_; conv => whnf))); exact ⟨rfl, hI⟩))); (conv => whnf))
  (apply StepI.of; (· intro S wd hk hp hI; (conv => whnf); (first | exact ⟨rfl, hI⟩ | ((repeat' (first | (refine Obl.mk ⟨by omega, by omega⟩ ?_; conv => whnf) | (refine Obl.mk ⟨by omega, by omega, ⟨by omega, by omega⟩⟩ ?_; conv => whnf) | ((with_reducible refine Tst.tt ?_); conv => whnf) | ((with_reducible refine Tst.ff ?_); conv => whnf) | ((with_reducible refine Tst.dec (fun _ => ?_) (fun _ => ?_)) <;> first | (exfalso; omega) | (conv => whnf)) | ((with_reducible refine Tst.not ?_)) | (refine Wit.conv ⟨by omega, by omega⟩ ?_; conv => whnf) | ((with_reducible refine IdxV.nat (by omega) ?_); conv => whnf) | ((with_reducible refine SameW.mk rfl ?_); conv => whnf) | ((with_reducible refine Tst.beqT ?_)) | ((with_reducible refine Tst.beqF ?_)) | (refine Tst.yes rfl ?_; conv => whnf) | (refine Tst.no rfl ?_; conv => whnf))); exact ⟨rfl, hI⟩))); (conv => whnf))
  (apply StepI.of; (· intro S wd hk hp hI; (conv => whnf); (first | exact ⟨rfl, hI⟩ | ((repeat' (first | (refine Obl.mk ⟨by omega, by omega⟩ ?_; conv => whnf) | (refine Obl.mk ⟨by omega, by omega, ⟨by omega, by omega⟩⟩ ?_; conv => whnf) | ((with_reducible refine Tst.tt ?_); conv => whnf) | ((with_reducible refine Tst.ff ?_); conv => whnf) | ((with_reducible refine Tst.dec (fun _ => ?_) (fun _ => ?_)) <;> first | (exfalso; omega) | (conv => whnf)) | ((with_reducible refine Tst.not ?_)) | (refine Wit.conv ⟨by omega, by omega⟩ ?_; conv => whnf) | ((with_reducible refine IdxV.nat (by omega) ?_); conv => whnf) | ((with_reducible refine SameW.mk rfl ?_); conv => whnf) | ((with_reducible refine Tst.beqT ?_)) | ((with_reducible refine Tst.beqF ?_)) | (refine Tst.yes rfl ?_; conv => whnf) | (refine Tst.no rfl ?_; conv => whnf))); exact ⟨rfl, hI⟩))); (conv => whnf))
  (apply StepI.of; (· intro S wd hk hp hI; (conv => whnf); (first | exact ⟨rfl, hI⟩ | ((repeat' (first | (refine Obl.mk ⟨by omega, by omega⟩ ?_; conv => whnf) | (refine Obl.mk ⟨by omega, by omega, ⟨by omega, by omega⟩⟩ ?_; conv => whnf) | ((with_reducible refine Tst.tt ?_); conv => whnf) | ((with_reducible refine Tst.ff ?_); conv => whnf) | ((with_reducible refine Tst.dec (fun _ => ?_) (fun _ => ?_)) <;> first | (exfalso; omega) | (conv => whnf)) | ((with_reducible refine Tst.not ?_)) | (refine Wit.conv ⟨by omega, by omega⟩ ?_; conv => whnf) | ((with_reducible refine IdxV.nat (by omega) ?_); conv => whnf) | ((with_reducible refine SameW.mk rfl ?_); conv => whnf) | ((with_reducible refine Tst.beqT ?_)) | ((with_reducible refine Tst.beqF ?_)) | (refine Tst.yes rfl ?_; conv => whnf) | (refine Tst.no rfl ?_; conv => whnf))); exact ⟨rfl, hI⟩))); (conv => whnf))
  (apply StepI.of; (· intro S wd hk hp hI; (conv => whnf); (first | exact ⟨rfl, hI⟩ | ((repeat' (first | (refine Obl.mk ⟨by omega, by omega⟩ ?_; conv => whnf) | (refine Obl.mk ⟨by omega, by omega, ⟨by omega, by omega⟩⟩ ?_; conv => whnf) | ((with_reducible refine Tst.tt ?_); conv => whnf) | ((with_reducible refine Tst.ff ?_); conv => whnf) | ((with_reducible refine Tst.dec (fun _ => ?_) (fun _ => ?_)) <;> first | (exfalso; omega) | (conv => whnf)) | ((with_reducible refine Tst.not ?_)) | (refine Wit.conv ⟨by omega, by omega⟩ ?_; conv => whnf) | ((with_reducible refine IdxV.nat (by omega) ?_); conv => whnf) | ((with_reducible refine SameW.mk rfl ?_); conv => whnf) | ((with_reducible refine Tst.beqT ?_)) | ((with_reducible refine Tst.beqF ?_)) | (refine Tst.yes rfl ?_; conv => whnf) | (refine Tst.no rfl ?_; conv => whnf))); exact ⟨rfl, hI⟩))); (conv => whnf))
  (apply StepI.of; (· intro S wd hk hp hI; (conv => whnf); (first | exact ⟨rfl, hI⟩ | ((repeat' (first | (refine Obl.mk ⟨by omega, by omega⟩ ?_; conv => whnf) | (refine Obl.mk ⟨by omega, by omega, ⟨by omega, by omega⟩⟩ ?_; conv => whnf) | ((with_reducible refine Tst.tt ?_); conv => whnf) | ((with_reducible refine Tst.ff ?_); conv => whnf) | ((with_reducible refine Tst.dec (fun _ => ?_) (fun _ => ?_)) <;> first | (exfalso; omega) | (conv => whnf)) | ((with_reducible refine Tst.not ?_)) | (refine Wit.conv ⟨by omega, by omega⟩ ?_; conv => whnf) | ((with_reducible refine IdxV.nat (by omega) ?_); conv => whnf) | ((with_reducible refine SameW.mk rfl ?_); conv => whnf) | ((with_reducible refine Tst.beqT ?_)) | ((with_reducible refine Tst.beqF ?_)) | (refine Tst.yes rfl ?_; conv => whnf) | (refine Tst.no rfl ?_; conv => whnf))); exact ⟨rfl, hI⟩))); (conv => whnf))
  (apply StepI.of; (· intro S wd hk hp hI; (conv => whnf); (first | exact ⟨rfl, hI⟩ | ((repeat' (first | (refine Obl.mk ⟨by omega, by omega⟩ ?_; conv => whnf) | (refine Obl.mk ⟨by omega, by omega, ⟨by omega, by omega⟩⟩ ?_; conv => whnf) | ((with_reducible refine Tst.tt ?_); conv => whnf) | ((with_reducible refine Tst.ff ?_); conv => whnf) | ((with_reducible refine Tst.dec (fun _ => ?_) (fun _ => ?_)) <;> first | (exfalso; omega) | (conv => whnf)) | ((with_reducible refine Tst.not ?_)) | (refine Wit.conv ⟨by omega, by omega⟩ ?_; conv => whnf) | ((with_reducible refine IdxV.nat (by omega) ?_); conv => whnf) | ((with_reducible refine SameW.mk rfl ?_); conv => whnf) | ((with_reducible refine Tst.beqT ?_)) | ((with_reducible refine Tst.beqF ?_)) | (refine Tst.yes rfl ?_; conv => whnf) | (refine Tst.no rfl ?_; conv => whnf))); exact ⟨rfl, hI⟩))); (conv => whnf))
  (apply StepI.of; (· intro S wd hk hp hI; (conv => whnf); (first | exact ⟨rfl, hI⟩ | ((repeat' (first | (refine Obl.mk ⟨by omega, by omega⟩ ?_; conv => whnf) | (refine Obl.mk ⟨by omega, by omega, ⟨by omega, by omega⟩⟩ ?_; conv => whnf) | ((with_reducible refine Tst.tt ?_); conv => whnf) | ((with_reducible refine Tst.ff ?_); conv => whnf) | ((with_reducible refine Tst.dec (fun _ => ?_) (fun _ => ?_)) <;> first | (exfalso; omega) | (conv => whnf)) | ((with_reducible refine Tst.not ?_)) | (refine Wit.conv ⟨by omega, by omega⟩ ?_; conv => whnf) | ((with_reducible refine IdxV.nat (by omega) ?_); conv => whnf) | ((with_reducible refine SameW.mk rfl ?_); conv => whnf) | ((with_reducible refine Tst.beqT ?_)) | ((with_reducible refine Tst.beqF ?_)) | (refine Tst.yes rfl ?_; conv => whnf) | (refine Tst.no rfl ?_; conv => whnf))); exact ⟨rfl, hI⟩))); (conv => whnf))
  (apply StepI.of; (· intro S wd hk hp hI; (conv => whnf); (first | exact ⟨rfl, hI⟩ | ((repeat' (first | (refine Obl.mk ⟨by omega, by omega⟩ ?_; conv => whnf) | (refine Obl.mk ⟨by omega, by omega, ⟨by omega, by omega⟩⟩ ?_; conv => whnf) | ((with_reducible refine Tst.tt ?_); conv => whnf) | ((with_reducible refine Tst.ff ?_); conv => whnf) | ((with_reducible refine Tst.dec (fun _ => ?_) (fun _ => ?_)) <;> first | (exfalso; omega) | (conv => whnf)) | ((with_reducible refine Tst.not ?_)) | (refine Wit.conv ⟨by omega, by omega⟩ ?_; conv => whnf) | ((with_reducible refine IdxV.nat (by omega) ?_); conv => whnf) | ((with_reducible refine SameW.mk rfl ?_); conv => whnf) | ((with_reducible refine Tst.beqT ?_)) | ((with_reducible refine Tst.beqF ?_)) | (refine Tst.yes rfl ?_; conv => whnf) | (refine Tst.no rfl ?_; conv => whnf))); exact ⟨rfl, hI⟩))); (conv => whnf))
  (apply StepI.of; (· intro S wd hk hp hI; (conv => whnf); (first | exact ⟨rfl, hI⟩ | ((repeat' (first | (refine Obl.mk ⟨by omega, by omega⟩ ?_; conv => whnf) | (refine Obl.mk ⟨by omega, by omega, ⟨by omega, by omega⟩⟩ ?_; conv => whnf) | ((with_reducible refine Tst.tt ?_); conv => whnf) | ((with_reducible refine Tst.ff ?_); conv => whnf) | ((with_reducible refine Tst.dec (fun _ => ?_) (fun _ => ?_)) <;> first | (exfalso; omega) | (conv => whnf)) | ((with_reducible refine Tst.not ?_)) | (refine Wit.conv ⟨by omega, by omega⟩ ?_; conv => whnf) | ((with_reducible refine IdxV.nat (by omega) ?_); conv => whnf) | ((with_reducible refine SameW.mk rfl ?_); conv => whnf) | ((with_reducible refine Tst.beqT ?_)) | ((with_reducible refine Tst.beqF ?_)) | (refine Tst.yes rfl ?_; conv => whnf) | (refine Tst.no rfl ?_; conv => whnf))); exact ⟨rfl, hI⟩))); (conv => whnf))
  refine StepI.of undef (fun S wd hk hp hI => ?_) ?_
  · have hm := (hI.resolve_right (fun h => by have := h.1; rw [hk] at this; cases this)).2
    (conv => whnf)
    refine StoreA.all (vs := ptrs b) hm (i := 0) rfl rfl (ptrs_one b) ?_
    intro w2 hm2
    exact ⟨rfl, .inr ⟨rfl, hm2⟩⟩
  (conv => whnf)
  intro w2 hI
  have hm2 := (hI.resolve_left (fun h => by have := h.1; cases this)).2
  (conv => whnf)
  refine res_any (R := fun v w' => v = .agg (ptrs b).toArray ∧ Ext w w') ?_
  (conv => whnf)
  refine LoadA.mem hm2 (i := 0) rfl rfl ?_
  (conv => whnf)
  exact ⟨rfl, hm2.ext⟩
noncomputable def fitE (k : Nat) (t : TM) : Nat := if canB k t = false then 70 else if t.kind = 0 then 0 else termE t
def aS : ByteArray := ⟨#[97, 58]⟩
def aT : TM := ⟨1, aS, ⟨#[]⟩, ⟨#[]⟩⟩
def nT : TM := ⟨0, ⟨#[]⟩, ⟨#[]⟩, ⟨#[]⟩⟩
def putQ (t : TM) : Nat → Q4
  | 0 => ⟨t, aT, aT, nT⟩
  | 1 => ⟨aT, t, aT, nT⟩
  | 2 => ⟨aT, aT, t, nT⟩
  | _ => ⟨aT, aT, aT, t⟩
theorem iriE_a : iriE aS = 0 := by
  have h0 : aS.data.toList = [97, 58] := rfl
  have hs : scal aS.data.toList ≠ none := by
    rw [h0, scal_step (by simp) (by decide)]
    have : ([97, 58] : List UInt8).drop (decN [97, 58]).2 = [58] := by decide
    rw [this, scal_step (by simp) (by decide)]
    have : ([58] : List UInt8).drop (decN [58]).2 = [] := by decide
    rw [this, scal]
    simp
  have h1 : refE aS = 0 := by
    rw [refE, if_neg (by decide), if_neg hs, if_neg (by rw [h0]; decide)]
  rw [iriE, if_neg (by rw [h1]; simp), if_neg (by rw [h0]; decide)]
theorem termE_a : termE aT = 0 := by
  rw [termE, if_pos (.inl rfl), if_neg (by simp [aT, seq_false]), if_pos (show aT.kind = 1 from rfl)]
  exact iriE_a
theorem qE_a (k : Nat) (hk : k < 3) : qE k aT = 0 := by
  have hc : canB k aT = true := by
    obtain rfl | rfl | rfl : k = 0 ∨ k = 1 ∨ k = 2 := by omega
    all_goals rfl
  rw [qE, if_neg (by rw [hc]; simp), if_neg (by omega), termE_a]
theorem qE_n : qE 3 nT = 0 := by
  have hc : canB 3 nT = true := rfl
  rw [qE, if_neg (by rw [hc]; simp), if_pos ⟨rfl, rfl⟩]
theorem quadE_put (t : TM) (k : Nat) (hk : k < 4) : quadE (putQ t k) = fitE k t := by
  have e : ∀ q : Q4, quadE q = firstE [qE 0 q.s, qE 1 q.p, qE 2 q.o, qE 3 q.g] := fun q => rfl
  have f : qE k t = fitE k t := by
    unfold qE fitE
    by_cases hc : canB k t = false
    · rw [if_pos hc, if_pos hc]
    · rw [if_neg hc, if_neg hc]
      by_cases h0 : t.kind = 0
      · by_cases h3 : k = 3
        · rw [if_pos ⟨h3, h0⟩, if_pos h0]
        · exfalso
          apply hc
          obtain rfl | rfl | rfl : k = 0 ∨ k = 1 ∨ k = 2 := by omega
          all_goals simp [canB, h0]
      · rw [if_neg (fun h => h0 h.2), if_neg h0]
  rw [e, ← f]
  obtain rfl | rfl | rfl | rfl : k = 0 ∨ k = 1 ∨ k = 2 ∨ k = 3 := by omega
  all_goals
    simp only [putQ, firstE, qE_a 0 (by omega), qE_a 1 (by omega), qE_a 2 (by omega), qE_n]
    split <;> simp_all
theorem okA : TermOk aT := ⟨⟨by decide, by decide⟩, by decide, by decide, by decide⟩
theorem okN : TermOk nT := ⟨⟨by decide, by decide⟩, by decide, by decide, by decide⟩
theorem putQ_ok (t : TM) (k : Nat) (ht : TermOk t) : QuadOk (putQ t k) := fun j => by
  match k, j with
  | 0, 0 | 1, 1 | 2, 2 => exact ht
  | 0, 1 | 0, 2 | 1, 0 | 1, 2 | 2, 0 | 2, 1 => exact okA
  | 0, j + 3 | 1, j + 3 | 2, j + 3 => exact okN
  | k + 3, 0 | k + 3, 1 | k + 3, 2 => exact okA
  | k + 3, j + 3 => exact ht
set_option maxHeartbeats 1000000 in
theorem fits_any (k : Nat) (hk : k < 4) (t : TM) (ht : TermOk t) (w : World) (hM : MaxLenAt w) (hT : CellsAt w 3 0 basesV) :
    Gv Tryz.prog 43 [.int .i64 k, termV t] w fun v w' => v = .int .i64 (fitE k t) ∧ Ext w w' := by
  rw [← quadE_put t k hk]
  have hck := fun w' (he : Ext w w') => checkQuad_any (putQ t k) (putQ_ok t k ht) w' (hM.ext he) (hT.ext he)
  refine gv (by kernel_rfl) Tryz.func43 rfl Tryz.ntmps43 rfl ?_; conv => whnf
  refine NewV.mem (Mem.nil w) ?_
  intro pb w1 hm
  (conv => whnf)
  refine NewV.mem hm ?_
  intro qb w2 hm
  (conv => whnf)
  refine StoreA.all (vs := quadC ⟨aT, aT, aT, nT⟩) hm (i := 0) rfl rfl (by decide) ?_
  intro w3 hm
  have hm : Mem w w3 [(qb, .cells (quadC ⟨aT, aT, aT, nT⟩).toArray 75 (0, 0)), (pb, .cells (encT t).toArray 73 (0, 0))] := hm
  (conv => whnf)
  refine DrawV.inv (fun S w' => (S 9 = false ∧ Mem w w' [(qb, .cells (quadC ⟨aT, aT, aT, nT⟩).toArray 75 (0, 0)), (pb, .cells (encT t).toArray 73 (0, 0))]) ∨
    (S 9 = true ∧ Mem w w' [(qb, .cells (quadC (putQ t k)).toArray 75 (0, 0)), (pb, .cells (encT t).toArray 73 (0, 0))])) rfl (by kernel_rfl) (.inl ⟨rfl, hm.drew⟩) ?_
  (conv => whnf)
  (apply StepI.of; (· intro S wd hk hp hI; (conv => whnf); (first | exact ⟨rfl, hI⟩ | ((repeat' (first | (refine Obl.mk ⟨by omega, by omega⟩ ?_; conv => whnf) | (refine Obl.mk ⟨by omega, by omega, ⟨by omega, by omega⟩⟩ ?_; conv => whnf) | ((with_reducible refine Tst.tt ?_); conv => whnf) | ((with_reducible refine Tst.ff ?_); conv => whnf) | ((with_reducible refine Tst.dec (fun _ => ?_) (fun _ => ?_)) <;> first | (exfalso; omega) | (conv => whnf)) | ((with_reducible refine Tst.not ?_)) | (refine Wit.conv ⟨by omega, by omega⟩ ?_; conv => whnf) | ((with_reducible refine IdxV.nat (by omega) ?_); conv => whnf) | ((with_reducible refine SameW.mk rfl ?_); conv => whnf) | ((with_reducible refine Tst.beqT ?_)) | ((with_reducible refine Tst.beqF ?_)) | (refine Tst.yes rfl ?_; conv => whnf) | (refine Tst.no rfl ?_; conv => whnf))); exact ⟨rfl, hI⟩))); (conv => whnf))
  (apply StepI.of; (· intro S wd hk hp hI; (conv => whnf); (first | exact ⟨rfl, hI⟩ | ((repeat' (first | (refine Obl.mk ⟨by omega, by omega⟩ ?_; conv => whnf) | (refine Obl.mk ⟨by omega, by omega, ⟨by omega, by omega⟩⟩ ?_; conv => whnf) | ((with_reducible refine Tst.tt ?_); conv => whnf) | ((with_reducible refine Tst.ff ?_); conv => whnf) | ((with_reducible refine Tst.dec (fun _ => ?_) (fun _ => ?_)) <;> first | (exfalso; omega) | (conv => whnf)) | ((with_reducible refine Tst.not ?_)) | (refine Wit.conv ⟨by omega, by omega⟩ ?_; conv => whnf) | ((with_reducible refine IdxV.nat (by omega) ?_); conv => whnf) | ((with_reducible refine SameW.mk rfl ?_); conv => whnf) | ((with_reducible refine Tst.beqT ?_)) | ((with_reducible refine Tst.beqF ?_)) | (refine Tst.yes rfl ?_; conv => whnf) | (refine Tst.no rfl ?_; conv => whnf))); exact ⟨rfl, hI⟩))); (conv => whnf))
  (apply StepI.of; (· intro S wd hk hp hI; (conv => whnf); (first | exact ⟨rfl, hI⟩ | ((repeat' (first | (refine Obl.mk ⟨by omega, by omega⟩ ?_; conv => whnf) | (refine Obl.mk ⟨by omega, by omega, ⟨by omega, by omega⟩⟩ ?_; conv => whnf) | ((with_reducible refine Tst.tt ?_); conv => whnf) | ((with_reducible refine Tst.ff ?_); conv => whnf) | ((with_reducible refine Tst.dec (fun _ => ?_) (fun _ => ?_)) <;> first | (exfalso; omega) | (conv => whnf)) | ((with_reducible refine Tst.not ?_)) | (refine Wit.conv ⟨by omega, by omega⟩ ?_; conv => whnf) | ((with_reducible refine IdxV.nat (by omega) ?_); conv => whnf) | ((with_reducible refine SameW.mk rfl ?_); conv => whnf) | ((with_reducible refine Tst.beqT ?_)) | ((with_reducible refine Tst.beqF ?_)) | (refine Tst.yes rfl ?_; conv => whnf) | (refine Tst.no rfl ?_; conv => whnf))); exact ⟨rfl, hI⟩))); (conv => whnf))
  (apply StepI.of; (· intro S wd hk hp hI; (conv => whnf); (first | exact ⟨rfl, hI⟩ | ((repeat' (first | (refine Obl.mk ⟨by omega, by omega⟩ ?_; conv => whnf) | (refine Obl.mk ⟨by omega, by omega, ⟨by omega, by omega⟩⟩ ?_; conv => whnf) | ((with_reducible refine Tst.tt ?_); conv => whnf) | ((with_reducible refine Tst.ff ?_); conv => whnf) | ((with_reducible refine Tst.dec (fun _ => ?_) (fun _ => ?_)) <;> first | (exfalso; omega) | (conv => whnf)) | ((with_reducible refine Tst.not ?_)) | (refine Wit.conv ⟨by omega, by omega⟩ ?_; conv => whnf) | ((with_reducible refine IdxV.nat (by omega) ?_); conv => whnf) | ((with_reducible refine SameW.mk rfl ?_); conv => whnf) | ((with_reducible refine Tst.beqT ?_)) | ((with_reducible refine Tst.beqF ?_)) | (refine Tst.yes rfl ?_; conv => whnf) | (refine Tst.no rfl ?_; conv => whnf))); exact ⟨rfl, hI⟩))); (conv => whnf))
  (apply StepI.of; (· intro S wd hk hp hI; (conv => whnf); (first | exact ⟨rfl, hI⟩ | ((repeat' (first | (refine Obl.mk ⟨by omega, by omega⟩ ?_; conv => whnf) | (refine Obl.mk ⟨by omega, by omega, ⟨by omega, by omega⟩⟩ ?_; conv => whnf) | ((with_reducible refine Tst.tt ?_); conv => whnf) | ((with_reducible refine Tst.ff ?_); conv => whnf) | ((with_reducible refine Tst.dec (fun _ => ?_) (fun _ => ?_)) <;> first | (exfalso; omega) | (conv => whnf)) | ((with_reducible refine Tst.not ?_)) | (refine Wit.conv ⟨by omega, by omega⟩ ?_; conv => whnf) | ((with_reducible refine IdxV.nat (by omega) ?_); conv => whnf) | ((with_reducible refine SameW.mk rfl ?_); conv => whnf) | ((with_reducible refine Tst.beqT ?_)) | ((with_reducible refine Tst.beqF ?_)) | (refine Tst.yes rfl ?_; conv => whnf) | (refine Tst.no rfl ?_; conv => whnf))); exact ⟨rfl, hI⟩))); (conv => whnf))
  (apply StepI.of; (· intro S wd hk hp hI; (conv => whnf); (first | exact ⟨rfl, hI⟩ | ((repeat' (first | (refine Obl.mk ⟨by omega, by omega⟩ ?_; conv => whnf) | (refine Obl.mk ⟨by omega, by omega, ⟨by omega, by omega⟩⟩ ?_; conv => whnf) | ((with_reducible refine Tst.tt ?_); conv => whnf) | ((with_reducible refine Tst.ff ?_); conv => whnf) | ((with_reducible refine Tst.dec (fun _ => ?_) (fun _ => ?_)) <;> first | (exfalso; omega) | (conv => whnf)) | ((with_reducible refine Tst.not ?_)) | (refine Wit.conv ⟨by omega, by omega⟩ ?_; conv => whnf) | ((with_reducible refine IdxV.nat (by omega) ?_); conv => whnf) | ((with_reducible refine SameW.mk rfl ?_); conv => whnf) | ((with_reducible refine Tst.beqT ?_)) | ((with_reducible refine Tst.beqF ?_)) | (refine Tst.yes rfl ?_; conv => whnf) | (refine Tst.no rfl ?_; conv => whnf))); exact ⟨rfl, hI⟩))); (conv => whnf))
  refine StepI.of (.pointer (some ⟨qb, k * 4, none⟩)) (fun S wd hk' hp hI => ?_) ?_
  · (conv => whnf)
    refine IdxV.nat hk ?_
    refine ⟨.pointer (some ⟨qb, k * 4, none⟩), ?_, ?_⟩
    · obtain rfl | rfl | rfl | rfl : k = 0 ∨ k = 1 ∨ k = 2 ∨ k = 3 := by omega
      all_goals rfl
    · exact ⟨rfl, hI⟩
  (conv => whnf)
  refine StepI.of (termV t) (fun S wd hk' hp hI => ?_) ?_
  · rcases hI with ⟨h1, hI⟩ | ⟨h1, hI⟩
    · (conv => whnf)
      refine LoadA.mem hI (i := 1) rfl rfl ?_
      (conv => whnf)
      exact ⟨rfl, .inl ⟨h1, hI⟩⟩
    · (conv => whnf)
      refine LoadA.mem hI (i := 1) rfl rfl ?_
      (conv => whnf)
      exact ⟨rfl, .inr ⟨h1, hI⟩⟩
  (conv => whnf)
  (apply StepI.of; (· intro S wd hk hp hI; (conv => whnf); (first | exact ⟨rfl, hI⟩ | ((repeat' (first | (refine Obl.mk ⟨by omega, by omega⟩ ?_; conv => whnf) | (refine Obl.mk ⟨by omega, by omega, ⟨by omega, by omega⟩⟩ ?_; conv => whnf) | ((with_reducible refine Tst.tt ?_); conv => whnf) | ((with_reducible refine Tst.ff ?_); conv => whnf) | ((with_reducible refine Tst.dec (fun _ => ?_) (fun _ => ?_)) <;> first | (exfalso; omega) | (conv => whnf)) | ((with_reducible refine Tst.not ?_)) | (refine Wit.conv ⟨by omega, by omega⟩ ?_; conv => whnf) | ((with_reducible refine IdxV.nat (by omega) ?_); conv => whnf) | ((with_reducible refine SameW.mk rfl ?_); conv => whnf) | ((with_reducible refine Tst.beqT ?_)) | ((with_reducible refine Tst.beqF ?_)) | (refine Tst.yes rfl ?_; conv => whnf) | (refine Tst.no rfl ?_; conv => whnf))); exact ⟨rfl, hI⟩))); (conv => whnf))
  refine StepI.of undef (fun S wd hk' hp hI => ?_) ?_
  · have hm := (hI.resolve_right (fun h => by have := h.1; rw [hk'] at this; cases this)).2
    (conv => whnf)
    refine StoreA.mem (vs := encT t) hm (i := 0) rfl (by show k * 4 + 4 ≤ 16; omega) (encT_one t) ?_
    intro w4 hm2
    refine ⟨rfl, .inr ⟨rfl, ?_⟩⟩
    obtain rfl | rfl | rfl | rfl : k = 0 ∨ k = 1 ∨ k = 2 ∨ k = 3 := by omega
    all_goals exact hm2
  (conv => whnf)
  intro w4 hI
  have hm := (hI.resolve_left (fun h => by have := h.1; cases this)).2
  (conv => whnf)
  refine LoadA.mem hm (i := 0) rfl rfl ?_
  (conv => whnf)
  refine CallV.of (hck w4 hm.ext) ?_
  rintro v w5 ⟨rfl, he5⟩
  (conv => whnf)
  exact ⟨rfl, hm.ext.trans he5⟩
end Go.Proofs.YtajgbepghniciaaGreatDoor
namespace Go.Proofs.YtajgbepghniciaaGreatDoor
open Go.RowKit V
set_option maxRecDepth 100000
def ofB (b : List UInt8) : ByteArray := ⟨b.toArray⟩
theorem encStr_of (cs : List (List UInt8)) : cs.map encStr = (cs.map ofB).map Value.string := by rw [List.map_map]; rfl
theorem ofB_data (cs : List (List UInt8)) : (cs.map ofB).map (·.data.toList) = cs := by
  rw [List.map_map]
  have : ((fun x : ByteArray => x.data.toList) ∘ ofB) = id := by funext b; rfl
  rw [this, List.map_id]
theorem data_of (l : List ByteArray) : (l.map (·.data.toList)).map ofB = l := by
  rw [List.map_map]
  have : (ofB ∘ fun x : ByteArray => x.data.toList) = id := by funext b; rfl
  rw [this, List.map_id]
theorem V.Rw.put {w0 w : World} {g n c q : Nat} {e : TypeId} {xs : List Value} {L : List (Nat × Obj)} {ts : List (List UInt8)} {os : Array Obj} (h : Rw w0 w (.slice (some ⟨g, 0, none⟩) n c) e 1 n xs L) (hl : ts.length = n) :
    Rw w0 (Sort.grow (Sort.putRow encStr (Sort.ahead w q) g 0 ts.toArray) os) (.slice (some ⟨g, 0, none⟩) n c) e 1 n ((ts.map ofB).map Value.string) L := by
  have hap : ∀ x ∈ L, x.1 ≠ g := fun x hx e => h.apart x hx (by rw [e]; rfl)
  have hxl := h.own.1
  rcases h.own.2 with ⟨e1, e2⟩ | ⟨g', cap, cur, e1, hb, hg, h2, h3, h4, h5⟩
  · cases e1
  · cases e1
    have hss : ∃ ss : List (List UInt8), ss.length = n := ⟨ts, hl⟩
    have hown := ownsRow_sorted (w := w) (n := q) (os := os) (ss := ts) (ts := ts) rfl hb hg (by omega) h3 h4
    rw [hl, encStr_of] at hown
    refine ⟨?_, hown, h.apart⟩
    exact h.grown (grownBy_sorted _) fun k hk => by
      cases hk
      exact ⟨hb, hap⟩
theorem V.Rw.holds {w0 w : World} {g n c : Nat} {e : TypeId} {l : List ByteArray} {L : List (Nat × Obj)} (h : Rw w0 w (.slice (some ⟨g, 0, none⟩) n c) e 1 n (l.map Value.string) L) :
    g < w.heap.size ∧ n ≤ c ∧ Sort.Holds encStr w g 0 (l.map (·.data.toList)).toArray := by
  have hxl := h.own.1
  rw [List.length_map, Nat.mul_one] at hxl
  rcases h.own.2 with ⟨e1, e2⟩ | ⟨g', cap, cur, e1, hb, hg, h2, h3, h4, h5⟩
  · cases e1
  · cases e1
    refine ⟨(Array.getElem?_eq_some_iff.1 hg).1, h2, holds_of_block hg ?_⟩
    rw [encStr_of, data_of, List.length_map, hxl]
    simpa using h5
theorem le_bytes_total (x y : List UInt8) : (decide (x ≤ y) || decide (y ≤ x)) = true := by
  simp only [Bool.or_eq_true, decide_eq_true_iff]
  exact List.le_total x y
theorem le_bytes_trans (x y z : List UInt8) (h : decide (x ≤ y) = true) (k : decide (y ≤ z) = true) : decide (x ≤ z) = true := by
  simp only [decide_eq_true_iff] at *
  exact List.le_trans h k
/-- slices.Sort -/
theorem sort_rw {w0 w : World} {A : Option Addr} {n c : Nat} {l : List ByteArray} {L : List (Nat × Obj)} (h : Rw w0 w (.slice A n c) 9 1 n (l.map Value.string) L) (hn : n ≤ 4611686018427387903) :
    Gv Tryz.prog 38 [.slice A n c] w fun v w' => v = .tuple #[] ∧ ∃ l' : List ByteArray, Rw w0 w' (.slice A n c) 9 1 n (l'.map Value.string) L ∧ (∀ x, x ∈ l' ↔ x ∈ l) ∧ (l'.map (·.data.toList)).Pairwise (· ≤ ·) := by
  have hxl := h.own.1
  rw [List.length_map, Nat.mul_one] at hxl
  refine ⟨by kernel_rfl, ?_⟩
  rcases Nat.eq_zero_or_pos n with h0 | h0
  · subst h0
    obtain rfl : l = [] := List.length_eq_zero_iff.1 hxl
    refine (Tryz.slices_Sort_string_none A c w).mono fun e w' ⟨he, hw⟩ => ?_
    subst he hw
    exact ⟨_, rfl, rfl, [], h, fun x => Iff.rfl, List.Pairwise.nil⟩
  · obtain ⟨g, rfl, _⟩ := h.cells h0
    obtain ⟨h1, h2, h3⟩ := h.holds
    have hl' : (l.map (·.data.toList)).length = n := by simp [hxl]
    have hS := Tryz.slices_Sort_string g 0 c (l.map (·.data.toList)) w h3 h1 (by omega)
    rw [hl'] at hS
    refine hS.mono fun e w' ⟨he, q, os, hw⟩ => ?_
    subst he hw
    have hp := List.mergeSort_perm (l.map (·.data.toList)) (fun x y => decide (x ≤ y))
    refine ⟨_, rfl, rfl, ((l.map (·.data.toList)).mergeSort fun x y => decide (x ≤ y)).map ofB, h.put (by simp [hxl]), fun x => ?_, ?_⟩
    · rw [List.mem_map]
      constructor
      · rintro ⟨b, hb, rfl⟩
        obtain ⟨y, hy, e⟩ := List.mem_map.1 (hp.mem_iff.1 hb)
        rw [← e]; exact hy
      · intro hx
        exact ⟨x.data.toList, hp.mem_iff.2 (List.mem_map.2 ⟨x, hx, rfl⟩), rfl⟩
    · rw [ofB_data]
      have := List.pairwise_mergeSort (le := fun x y => decide (x ≤ y)) le_bytes_trans le_bytes_total (l.map (·.data.toList))
      exact this.imp fun h => of_decide_eq_true h
theorem compact_sorted (zs : List (List UInt8)) (h : zs.Pairwise (· ≤ ·)) : (Lib.compact zs).Pairwise (· < ·) ∧ ∀ x, x ∈ Lib.compact zs ↔ x ∈ zs := by
  have hg : ∀ i (hi : i < zs.length), zs.toArray[i]! = zs[i] := fun i hi => by simp [hi]
  have hp := List.pairwise_iff_getElem.1 h
  constructor
  · unfold Lib.compact Lib.compactUpTo
    rw [List.pairwise_map]
    have hr : ((List.range zs.length).filter (Lib.keeps zs.toArray)).Pairwise (· < ·) := List.Pairwise.filter _ List.pairwise_lt_range
    refine hr.imp_of_mem fun {i j} hi hj hij => ?_
    obtain ⟨hi1, hi2⟩ := List.mem_filter.1 hi
    obtain ⟨hj1, hj2⟩ := List.mem_filter.1 hj
    have hil := List.mem_range.1 hi1
    have hjl := List.mem_range.1 hj1
    have hk : j = 0 ∨ zs.toArray[j]! ≠ zs.toArray[j - 1]! := by simpa [Lib.keeps] using hj2
    have hk := hk.resolve_left (by omega)
    rw [hg j hjl, hg (j - 1) (by omega)] at hk
    rw [hg i hil, hg j hjl]
    have h1 : zs[j - 1] ≤ zs[j] := hp (j - 1) j (by omega) hjl (by omega)
    have h2 : zs[j - 1] < zs[j] := by
      apply Classical.byContradiction
      intro hc
      exact hk (List.le_antisymm (List.not_lt.1 hc) h1)
    by_cases e : i = j - 1
    · subst e; exact h2
    · have h3 : zs[i] ≤ zs[j - 1] := hp i (j - 1) hil (by omega) (by omega)
      by_cases h4 : zs[i] < zs[j - 1]
      · exact List.lt_trans h4 h2
      · rw [List.le_antisymm h3 (List.not_lt.1 h4)]; exact h2
  · intro x
    unfold Lib.compact Lib.compactUpTo
    rw [List.mem_map]
    constructor
    · rintro ⟨i, hi, rfl⟩
      have hil := List.mem_range.1 (List.mem_filter.1 hi).1
      rw [hg i hil]; exact List.getElem_mem hil
    · intro hx
      obtain ⟨i, hi, rfl⟩ := List.mem_iff_getElem.1 hx
      induction i with
      | zero => exact ⟨0, List.mem_filter.2 ⟨List.mem_range.2 hi, by simp [Lib.keeps]⟩, hg 0 hi⟩
      | succ i ih =>
        by_cases e : zs[i] = zs[i + 1]
        · rw [← e]; exact ih (by omega) (List.getElem_mem _)
        · refine ⟨i + 1, List.mem_filter.2 ⟨List.mem_range.2 hi, ?_⟩, hg _ hi⟩
          have : zs.toArray[i + 1]! ≠ zs.toArray[i + 1 - 1]! := by
            rw [hg _ hi, Nat.add_sub_cancel, hg i (by omega)]
            exact fun h => e h.symm
          simp only [Lib.keeps]
          exact decide_eq_true (.inr this)
/-- slices.Compact of a sorted row -/
theorem compact_rw {w0 w : World} {A : Option Addr} {n c : Nat} {l : List ByteArray} {L : List (Nat × Obj)} (h : Rw w0 w (.slice A n c) 9 1 n (l.map Value.string) L) (hn : n ≤ 4611686018427387903) (hs : (l.map (·.data.toList)).Pairwise (· ≤ ·)) :
    Gv Tryz.prog 40 [.slice A n c] w fun v w' => ∃ l' : List ByteArray, v = .slice A l'.length c ∧ Rw w0 w' (.slice A l'.length c) 9 1 l'.length (l'.map Value.string) L ∧ l'.length ≤ n ∧ Sorted l' ∧ ∀ x, x ∈ l' ↔ x ∈ l := by
  have hxl := h.own.1
  rw [List.length_map, Nat.mul_one] at hxl
  refine ⟨by kernel_rfl, ?_⟩
  rcases Nat.eq_zero_or_pos n with h0 | h0
  · subst h0
    obtain rfl : l = [] := List.length_eq_zero_iff.1 hxl
    refine (Tryz.slices_Compact_string_empty A c w).mono fun e w' ⟨he, hw⟩ => ?_
    subst he hw
    exact ⟨_, rfl, [], rfl, h, Nat.le_refl _, List.Pairwise.nil, fun x => Iff.rfl⟩
  · obtain ⟨g, rfl, _⟩ := h.cells h0
    obtain ⟨h1, h2, h3⟩ := h.holds
    have hl' : (l.map (·.data.toList)).length = n := by simp [hxl]
    have hS := Tryz.slices_Compact_string g 0 c (l.map (·.data.toList)) w h3 (by omega) (by omega)
    rw [hl'] at hS
    obtain ⟨c1, c2⟩ := compact_sorted _ hs
    have hcl := Lib.compact_length_le (l.map (·.data.toList))
    rw [hl'] at hcl
    refine hS.mono fun e w' ⟨he, q, hw⟩ => ?_
    subst he hw
    have hput := h.put (q := q) (os := #[]) (ts := Lib.compact (l.map (·.data.toList)) ++ List.replicate (n - (Lib.compact (l.map (·.data.toList))).length) []) (by simp; omega)
    rw [Sort.grow_empty] at hput
    have hsh := hput.short (Lib.compact (l.map (·.data.toList))).length hcl
    rw [List.map_append, List.map_append, List.take_left' (by simp)] at hsh
    refine ⟨_, rfl, (Lib.compact (l.map (·.data.toList))).map ofB, by rw [List.length_map], by rw [List.length_map]; exact hsh, by rw [List.length_map]; exact hcl, ?_, fun x => ?_⟩
    · unfold Sorted
      rw [List.pairwise_map]
      exact c1.imp fun h => slt_iff.2 h
    · rw [List.mem_map]
      constructor
      · rintro ⟨b, hb, rfl⟩
        obtain ⟨y, hy, e⟩ := List.mem_map.1 ((c2 b).1 hb)
        rw [← e]; exact hy
      · intro hx
        exact ⟨x.data.toList, (c2 _).2 (List.mem_map.2 ⟨x, hx, rfl⟩), rfl⟩
theorem clip_any (A : Option Addr) (n c : Nat) (hc : n ≤ c) (hA : A = none ∨ ∃ g o, A = some ⟨g, o, none⟩) (w : World) : Gv Tryz.prog 39 [.slice A n c] w fun v w' => v = .slice A n n ∧ w' = w := by
  refine gv (by kernel_rfl) Tryz.func39 rfl Tryz.ntmps39 rfl ?_; conv => whnf
  refine ⟨0, n, n, rfl, rfl, rfl, by omega, by omega, hc, fun _ => rfl, fun A' hA' => ?_⟩
  have e : A' = A := by
    rw [hA']
    split
    · rfl
    · rcases hA with rfl | ⟨g, o, rfl⟩
      · rfl
      · rw [Nat.zero_mul]
        simp only [Option.map_some]
        rw [add_plain]; rfl
  subst e
  (conv => whnf)
  exact ⟨by rw [Nat.sub_zero], rfl⟩
end Go.Proofs.YtajgbepghniciaaGreatDoor
namespace Go.Proofs.YtajgbepghniciaaGreatDoor
open Go.RowKit V
set_option maxRecDepth 100000
abbrev gP (r : Nat) (g : GL) : Nat × Obj := (r, .cells (goC g).toArray 90 (0, 0))
theorem fullL_snoc (l : List ByteArray) (x : ByteArray) (hx : seq x ⟨#[]⟩ = false) : fullL (l ++ [x]) = fullL l ++ [x] := by
  rw [fullL_app]; simp [fullL, hx]
theorem fullL_skip (l : List ByteArray) (x : ByteArray) (hx : seq x ⟨#[]⟩ = true) : fullL (l ++ [x]) = fullL l := by
  rw [fullL_app]; simp [fullL, hx]
theorem fullL_len (l : List ByteArray) : (fullL l).length ≤ l.length := List.length_filter_le ..
theorem goalsLen (gs : List GL) : (gs.flatMap names4).length = 4 * gs.length := by
  induction gs with
  | nil => rfl
  | cons g gs ih => rw [List.flatMap_cons, List.length_append, ih]; simp [names4]; omega
set_option maxHeartbeats 1000000 in
theorem vars_any (q : QL) (w : World) (hq : QAt w q) (ho : QOk q) :
    Gv Tryz.prog 14 [queryV q] w fun v w' => ∃ A c l, v = .slice A l.length c ∧ VarsAt w' q.gs A l ∧ Ext w w' := by
  refine gv (by kernel_rfl) Tryz.func14 rfl Tryz.ntmps14 rfl ?_; conv => whnf
  refine NewV.mem (Mem.nil w) ?_
  intro b w1 hm
  have hm : Mem w w1 [qB b q] := hm
  (conv => whnf)
  refine LoadV.mem hm (i := 0) rfl rfl ?_
  (conv => whnf)
  have hgl := ho.gl
  refine loopV (fun x : Nat × List ByteArray × Option Addr × Nat => [(3, .slice x.2.2.1 x.2.1.length x.2.2.2), (9, .slice q.ga q.gs.length q.gc), (10, .int .i64 q.gs.length), (11, .int .i64 x.1)])
    (fun x w2 => x.1 ≤ q.gs.length ∧ Rw w w2 (.slice x.2.2.1 x.2.1.length x.2.2.2) 9 1 x.2.1.length (x.2.1.map Value.string) [qB b q] ∧
      x.2.1 = fullL ((q.gs.take x.1).flatMap names4)) (fun x => q.gs.length - x.1) (0, [], none, 0) ⟨rfl, rfl, rfl, rfl, trivial⟩ ⟨by simp, Rw.nil hm, by simp [fullL]⟩ ?_
  rintro ⟨i, l, A, c⟩ w2 ρ' ⟨h1, hR, hl⟩
  dsimp only at h1 hR hl ⊢
  (conv => whnf)
  (repeat' (first
      | (refine Obl.mk ⟨by omega, by omega⟩ ?_; conv => whnf)
      | (refine Obl.mk ⟨by omega, by omega, ⟨by omega, by omega⟩⟩ ?_; conv => whnf)
      | ((with_reducible refine Tst.tt ?_); conv => whnf)
      | ((with_reducible refine Tst.ff ?_); conv => whnf)
      | ((with_reducible refine Tst.dec (fun _ => ?_) (fun _ => ?_)) <;> first | (exfalso; omega) | (conv => whnf))
      | ((with_reducible refine Tst.not ?_))
      | (refine Wit.conv ⟨by omega, by omega⟩ ?_; conv => whnf)
      | ((with_reducible refine IdxV.nat (by omega) ?_); conv => whnf)
      | ((with_reducible refine SameW.mk rfl ?_); conv => whnf)
      | (refine LoadV.mem (i := 0) (by assumption) rfl rfl ?_; conv => whnf)
      | (refine LoadV.mem (i := 1) (by assumption) rfl rfl ?_; conv => whnf)
      | (refine LoadV.mem (i := 2) (by assumption) rfl rfl ?_; conv => whnf)
      | ((with_reducible refine Tst.beqT ?_))
      | ((with_reducible refine Tst.beqF ?_))
      | (refine Tst.yes rfl ?_; conv => whnf)
      | (refine Tst.no rfl ?_; conv => whnf)))
  · have hi : i < q.gs.length := by omega
    refine ElemV.sl (hq.g.ext hR.mem.ext) rfl i rfl hi ?_
    intro gb goff hc
    (conv => whnf)
    refine LoadA.cells hc rfl ?_
    (conv => whnf)
    refine NewV.rw hR ?_
    intro r w3 hR
    (conv => whnf)
    refine StoreA.rwAll hR rfl (goC_one q.gs[i]) ?_
    intro w4 hR
    (conv => whnf)
    refine CallV.of (slots_any r w4) ?_
    rintro v w5 ⟨rfl, he5⟩
    have hR := hR.call he5
    (conv => whnf)
    have htk : q.gs.take (i + 1) = q.gs.take i ++ [q.gs[i]] := by rw [List.take_succ_eq_append_getElem hi]
    have hlen : ∀ k, (fullL ((q.gs.take i).flatMap names4 ++ (names4 q.gs[i]).take k)).length ≤ 4 * 1048576 + 4 := fun k => by
      refine Nat.le_trans (fullL_len _) ?_
      rw [List.length_append, goalsLen, List.length_take, List.length_take]
      have : (names4 q.gs[i]).length = 4 := rfl
      omega
    refine loopV (fun x : Nat × List ByteArray × Option Addr × Nat => [(3, .slice x.2.2.1 x.2.1.length x.2.2.2), (9, .slice q.ga q.gs.length q.gc), (10, .int .i64 q.gs.length), (11, .int .i64 i), (15, .agg (ptrs r).toArray), (16, .int .i64 x.1)])
      (fun x w6 => x.1 ≤ 4 ∧ Rw w w6 (.slice x.2.2.1 x.2.1.length x.2.2.2) 9 1 x.2.1.length (x.2.1.map Value.string) [gP r q.gs[i], qB b q] ∧
        x.2.1 = fullL ((q.gs.take i).flatMap names4 ++ (names4 q.gs[i]).take x.1)) (fun x => 4 - x.1) (0, l, A, c) ⟨rfl, rfl, rfl, rfl, rfl, rfl, trivial⟩ ⟨by simp, hR, by simpa using hl⟩ ?_
    clear hR hl hc
    rintro ⟨k, s, A, c⟩ w6 ρ' ⟨k1, hR, hl⟩
    dsimp only at k1 hR hl ⊢
    (conv => whnf)
    (repeat' (first
      | (refine Obl.mk ⟨by omega, by omega⟩ ?_; conv => whnf)
      | (refine Obl.mk ⟨by omega, by omega, ⟨by omega, by omega⟩⟩ ?_; conv => whnf)
      | ((with_reducible refine Tst.tt ?_); conv => whnf)
      | ((with_reducible refine Tst.ff ?_); conv => whnf)
      | ((with_reducible refine Tst.dec (fun _ => ?_) (fun _ => ?_)) <;> first | (exfalso; omega) | (conv => whnf))
      | ((with_reducible refine Tst.not ?_))
      | (refine Wit.conv ⟨by omega, by omega⟩ ?_; conv => whnf)
      | ((with_reducible refine IdxV.nat (by omega) ?_); conv => whnf)
      | ((with_reducible refine SameW.mk rfl ?_); conv => whnf)
      | (refine LoadV.mem (i := 0) (by assumption) rfl rfl ?_; conv => whnf)
      | (refine LoadV.mem (i := 1) (by assumption) rfl rfl ?_; conv => whnf)
      | (refine LoadV.mem (i := 2) (by assumption) rfl rfl ?_; conv => whnf)
      | ((with_reducible refine Tst.beqT ?_))
      | ((with_reducible refine Tst.beqF ?_))
      | (refine Tst.yes rfl ?_; conv => whnf)
      | (refine Tst.no rfl ?_; conv => whnf)))
    · have hk : k < 4 := by omega
      refine ⟨.pointer (some ⟨r, k * 5, none⟩), ?_, ?_⟩
      · obtain rfl | rfl | rfl | rfl : k = 0 ∨ k = 1 ∨ k = 2 ∨ k = 3 := by omega
        all_goals rfl
      (conv => whnf)
      obtain ⟨x, hx⟩ : ∃ x, x = (q.gs[i].at k).v := ⟨_, rfl⟩
      have hcl : w6.cell? ⟨r, k * 5, none⟩ = some (.string x) := by
        have := goC_at (CellsAt.mem hR.mem (List.mem_cons_self ..)) k hk 0 _ rfl
        rw [hx, Nat.zero_add] at *
        exact this
      refine LoadV.of hcl ?_
      (conv => whnf)
      have hnext : (names4 q.gs[i]).take (k + 1) = (names4 q.gs[i]).take k ++ [x] := by rw [names4_take _ _ hk, hx]
      have hlen := hlen k
      rw [← hl] at hlen
      cases hv : seq x ⟨#[]⟩
      · (conv => whnf)
        (repeat' (first
      | (refine Obl.mk ⟨by omega, by omega⟩ ?_; conv => whnf)
      | (refine Obl.mk ⟨by omega, by omega, ⟨by omega, by omega⟩⟩ ?_; conv => whnf)
      | ((with_reducible refine Tst.tt ?_); conv => whnf)
      | ((with_reducible refine Tst.ff ?_); conv => whnf)
      | ((with_reducible refine Tst.dec (fun _ => ?_) (fun _ => ?_)) <;> first | (exfalso; omega) | (conv => whnf))
      | ((with_reducible refine Tst.not ?_))
      | (refine Wit.conv ⟨by omega, by omega⟩ ?_; conv => whnf)
      | ((with_reducible refine IdxV.nat (by omega) ?_); conv => whnf)
      | ((with_reducible refine SameW.mk rfl ?_); conv => whnf)
      | (refine LoadV.mem (i := 0) (by assumption) rfl rfl ?_; conv => whnf)
      | (refine LoadV.mem (i := 1) (by assumption) rfl rfl ?_; conv => whnf)
      | (refine LoadV.mem (i := 2) (by assumption) rfl rfl ?_; conv => whnf)
      | ((with_reducible refine Tst.beqT ?_))
      | ((with_reducible refine Tst.beqF ?_))
      | (refine Tst.yes rfl ?_; conv => whnf)
      | (refine Tst.no rfl ?_; conv => whnf)))
        refine LoadV.of hcl ?_
        (conv => whnf)
        refine NewV.rw hR ?_
        intro nb w8 hR8
        (conv => whnf)
        refine AppV.one strSl strI strZ (by kernel_rfl) rfl (by decide +kernel) hR8 rfl (by show s.length + 1 ≤ _; omega) ?_
        intro B d w9 hR9
        (conv => whnf)
        (repeat' (first
      | (refine Obl.mk ⟨by omega, by omega⟩ ?_; conv => whnf)
      | (refine Obl.mk ⟨by omega, by omega, ⟨by omega, by omega⟩⟩ ?_; conv => whnf)
      | ((with_reducible refine Tst.tt ?_); conv => whnf)
      | ((with_reducible refine Tst.ff ?_); conv => whnf)
      | ((with_reducible refine Tst.dec (fun _ => ?_) (fun _ => ?_)) <;> first | (exfalso; omega) | (conv => whnf))
      | ((with_reducible refine Tst.not ?_))
      | (refine Wit.conv ⟨by omega, by omega⟩ ?_; conv => whnf)
      | ((with_reducible refine IdxV.nat (by omega) ?_); conv => whnf)
      | ((with_reducible refine SameW.mk rfl ?_); conv => whnf)
      | (refine LoadV.mem (i := 0) (by assumption) rfl rfl ?_; conv => whnf)
      | (refine LoadV.mem (i := 1) (by assumption) rfl rfl ?_; conv => whnf)
      | (refine LoadV.mem (i := 2) (by assumption) rfl rfl ?_; conv => whnf)
      | ((with_reducible refine Tst.beqT ?_))
      | ((with_reducible refine Tst.beqF ?_))
      | (refine Tst.yes rfl ?_; conv => whnf)
      | (refine Tst.no rfl ?_; conv => whnf)))
        refine ⟨(k + 1, s ++ [x], B, d), ⟨by simp only [List.length_append]; rfl, rfl, rfl, rfl, rfl, rfl, trivial⟩, ⟨by simp only; omega, ?_, ?_⟩, by simp only; omega⟩
        · simp only [List.length_append, List.length_singleton, List.map_append, List.map_cons, List.map_nil]
          exact hR9
        · simp only
          rw [hnext, ← List.append_assoc, fullL_snoc _ _ hv, ← hl]
      · (conv => whnf)
        (repeat' (first
      | (refine Obl.mk ⟨by omega, by omega⟩ ?_; conv => whnf)
      | (refine Obl.mk ⟨by omega, by omega, ⟨by omega, by omega⟩⟩ ?_; conv => whnf)
      | ((with_reducible refine Tst.tt ?_); conv => whnf)
      | ((with_reducible refine Tst.ff ?_); conv => whnf)
      | ((with_reducible refine Tst.dec (fun _ => ?_) (fun _ => ?_)) <;> first | (exfalso; omega) | (conv => whnf))
      | ((with_reducible refine Tst.not ?_))
      | (refine Wit.conv ⟨by omega, by omega⟩ ?_; conv => whnf)
      | ((with_reducible refine IdxV.nat (by omega) ?_); conv => whnf)
      | ((with_reducible refine SameW.mk rfl ?_); conv => whnf)
      | (refine LoadV.mem (i := 0) (by assumption) rfl rfl ?_; conv => whnf)
      | (refine LoadV.mem (i := 1) (by assumption) rfl rfl ?_; conv => whnf)
      | (refine LoadV.mem (i := 2) (by assumption) rfl rfl ?_; conv => whnf)
      | ((with_reducible refine Tst.beqT ?_))
      | ((with_reducible refine Tst.beqF ?_))
      | (refine Tst.yes rfl ?_; conv => whnf)
      | (refine Tst.no rfl ?_; conv => whnf)))
        exact ⟨(k + 1, s, A, c), ⟨rfl, rfl, rfl, rfl, rfl, rfl, trivial⟩, ⟨by simp only; omega, hR, by simp only; rw [hnext, ← List.append_assoc, fullL_skip _ _ hv, ← hl]⟩, by simp only; omega⟩
    · refine ⟨(i + 1, s, A, c), ⟨rfl, rfl, rfl, rfl, trivial⟩, ⟨by simp only; omega, hR.tail, ?_⟩, by simp only; omega⟩
      simp only
      rw [hl, htk, List.flatMap_append, List.take_of_length_le (show (names4 q.gs[i]).length ≤ k by show 4 ≤ k; omega)]
      simp
  · have hl : l = varsL q.gs := by rw [hl, List.take_of_length_le (by omega)]; rfl
    have hn : l.length ≤ 4 * 1048576 := by
      rw [hl]
      refine Nat.le_trans (fullL_len _) ?_
      rw [goalsLen]; omega
    refine CallV.of (sort_rw hR (by omega)) ?_
    rintro v w3 ⟨rfl, l', hR, hm', hp'⟩
    have hxl := hR.own.1
    rw [List.length_map, Nat.mul_one] at hxl
    (conv => whnf)
    refine CallV.of (compact_rw hR (by omega) hp') ?_
    rintro v w4 ⟨l2, rfl, hR, hle, hso, hm2⟩
    have hA : A = none ∨ ∃ g o, A = some ⟨g, o, none⟩ := by
      rcases hR.own.2 with ⟨e1, e2⟩ | ⟨g', cap, cur, e1, _⟩
      · injection e1 with e1; exact .inl e1
      · injection e1 with e1; exact .inr ⟨g', 0, e1⟩
    have hst := hR.strs
    (conv => whnf)
    refine CallV.of (clip_any A l2.length c hst.2 hA w4) ?_
    rintro v w5 ⟨rfl, rfl⟩
    (conv => whnf)
    refine ⟨A, l2.length, l2, rfl, ⟨hst.1, hso, fun x => by rw [hm2, hm', hl], ?_⟩, hR.mem.ext⟩
    have h1 := fullL_len (q.gs.flatMap names4)
    rw [goalsLen] at h1
    have h2 : l.length = (fullL (q.gs.flatMap names4)).length := by rw [hl]; rfl
    omega
end Go.Proofs.YtajgbepghniciaaGreatDoor
namespace Go.Proofs.YtajgbepghniciaaGreatDoor
open Go.RowKit V
set_option maxRecDepth 100000
theorem nan1_any (x : ByteArray) (w : World) : Gv Tryz.prog 144 [.string x] w fun v w' => v = .bool false ∧ w' = w := by
  have e : seq x x = true := seq_iff.2 rfl
  refine gv (by kernel_rfl) Tryz.func144 rfl Tryz.ntmps144 rfl ?_; conv => whnf
  rw [e]
  exact ⟨rfl, rfl⟩
theorem nan2_any (x : ByteArray) (w : World) : Gv Tryz.prog 85 [.string x] w fun v w' => v = .bool false ∧ w' = w := by
  have e : seq x x = true := seq_iff.2 rfl
  refine gv (by kernel_rfl) Tryz.func85 rfl Tryz.ntmps85 rfl ?_; conv => whnf
  rw [e]
  exact ⟨rfl, rfl⟩
theorem less_any (x y : ByteArray) (w : World) : Gv Tryz.prog 84 [.string x, .string y] w fun v w' => v = .bool (slt x y) ∧ w' = w := by
  refine gv (by kernel_rfl) Tryz.func84 rfl Tryz.ntmps84 rfl ?_; conv => whnf
  refine CallV.of (nan1_any x w) ?_
  rintro v w1 ⟨rfl, rfl⟩
  (conv => whnf)
  (repeat' (first
      | (refine Obl.mk ⟨by omega, by omega⟩ ?_; conv => whnf)
      | (refine Obl.mk ⟨by omega, by omega, ⟨by omega, by omega⟩⟩ ?_; conv => whnf)
      | ((with_reducible refine Tst.tt ?_); conv => whnf)
      | ((with_reducible refine Tst.ff ?_); conv => whnf)
      | ((with_reducible refine Tst.dec (fun _ => ?_) (fun _ => ?_)) <;> first | (exfalso; omega) | (conv => whnf))
      | ((with_reducible refine Tst.not ?_))
      | (refine Wit.conv ⟨by omega, by omega⟩ ?_; conv => whnf)
      | ((with_reducible refine IdxV.nat (by omega) ?_); conv => whnf)
      | ((with_reducible refine SameW.mk rfl ?_); conv => whnf)
      | (refine LoadV.mem (i := 0) (by assumption) rfl rfl ?_; conv => whnf)
      | (refine LoadV.mem (i := 1) (by assumption) rfl rfl ?_; conv => whnf)
      | (refine LoadV.mem (i := 2) (by assumption) rfl rfl ?_; conv => whnf)
      | ((with_reducible refine Tst.beqT ?_))
      | ((with_reducible refine Tst.beqF ?_))
      | (refine Tst.yes rfl ?_; conv => whnf)
      | (refine Tst.no rfl ?_; conv => whnf)))
  exact ⟨rfl, rfl⟩
set_option maxHeartbeats 400000 in
theorem search_any (l : List ByteArray) (hs : Sorted l) (A : Option Addr) (c : Nat) (x : ByteArray) (w : World) (hS : SlAt V.encS 1 w A l) (hn : l.length ≤ 4611686018427387903) :
    Gv Tryz.prog 46 [.slice A l.length c, .string x] w fun v w' => (∃ i : Int, v = .tuple #[.int .i64 i, .bool (inL l x)]) ∧ w' = w := by
  have hlt := List.pairwise_iff_getElem.1 hs
  refine gv (by kernel_rfl) Tryz.func46 rfl Tryz.ntmps46 rfl ?_; conv => whnf
  refine loopV (fun p : Nat × Nat => [(0, .slice A l.length c), (1, .string x), (6, .int .i64 l.length), (7, .int .i64 p.1), (8, .int .i64 p.2)])
    (fun p w1 => p.1 ≤ p.2 ∧ p.2 ≤ l.length ∧ (∀ a (ha : a < l.length), a < p.1 → slt l[a] x = true) ∧ (∀ a (ha : a < l.length), p.2 ≤ a → slt l[a] x = false) ∧ w1 = w) (fun p => p.2 - p.1) (0, l.length) ⟨rfl, rfl, rfl, rfl, rfl, trivial⟩
    ⟨by simp, by simp, fun a ha h0 => by simp at h0, fun a ha h0 => by simp at h0; omega, rfl⟩ ?_
  rintro ⟨i, j⟩ w1 ρ' ⟨h1, h2, h3, h4, rfl⟩
  dsimp only at h1 h2 h3 h4 ⊢
  (conv => whnf)
  (repeat' (first
      | (refine Obl.mk ⟨by omega, by omega⟩ ?_; conv => whnf)
      | (refine Obl.mk ⟨by omega, by omega, ⟨by omega, by omega⟩⟩ ?_; conv => whnf)
      | ((with_reducible refine Tst.tt ?_); conv => whnf)
      | ((with_reducible refine Tst.ff ?_); conv => whnf)
      | ((with_reducible refine Tst.dec (fun _ => ?_) (fun _ => ?_)) <;> first | (exfalso; omega) | (conv => whnf))
      | ((with_reducible refine Tst.not ?_))
      | (refine Wit.conv ⟨by omega, by omega⟩ ?_; conv => whnf)
      | ((with_reducible refine IdxV.nat (by omega) ?_); conv => whnf)
      | ((with_reducible refine SameW.mk rfl ?_); conv => whnf)
      | (refine LoadV.mem (i := 0) (by assumption) rfl rfl ?_; conv => whnf)
      | (refine LoadV.mem (i := 1) (by assumption) rfl rfl ?_; conv => whnf)
      | (refine LoadV.mem (i := 2) (by assumption) rfl rfl ?_; conv => whnf)
      | ((with_reducible refine Tst.beqT ?_))
      | ((with_reducible refine Tst.beqF ?_))
      | (refine Tst.yes rfl ?_; conv => whnf)
      | (refine Tst.no rfl ?_; conv => whnf)))
  · refine Wit.shr (m := 2) (r := (((i + j) / 2 : Nat) : Int)) ⟨by omega, by decide⟩ (by decide) (by omega) ?_
    (conv => whnf)
    (repeat' (first
      | (refine Obl.mk ⟨by omega, by omega⟩ ?_; conv => whnf)
      | (refine Obl.mk ⟨by omega, by omega, ⟨by omega, by omega⟩⟩ ?_; conv => whnf)
      | ((with_reducible refine Tst.tt ?_); conv => whnf)
      | ((with_reducible refine Tst.ff ?_); conv => whnf)
      | ((with_reducible refine Tst.dec (fun _ => ?_) (fun _ => ?_)) <;> first | (exfalso; omega) | (conv => whnf))
      | ((with_reducible refine Tst.not ?_))
      | (refine Wit.conv ⟨by omega, by omega⟩ ?_; conv => whnf)
      | ((with_reducible refine IdxV.nat (by omega) ?_); conv => whnf)
      | ((with_reducible refine SameW.mk rfl ?_); conv => whnf)
      | (refine LoadV.mem (i := 0) (by assumption) rfl rfl ?_; conv => whnf)
      | (refine LoadV.mem (i := 1) (by assumption) rfl rfl ?_; conv => whnf)
      | (refine LoadV.mem (i := 2) (by assumption) rfl rfl ?_; conv => whnf)
      | ((with_reducible refine Tst.beqT ?_))
      | ((with_reducible refine Tst.beqF ?_))
      | (refine Tst.yes rfl ?_; conv => whnf)
      | (refine Tst.no rfl ?_; conv => whnf)))
    have hm : (i + j) / 2 < l.length := by omega
    refine ElemV.sl hS rfl ((i + j) / 2) rfl hm ?_
    intro eb eo hc
    (conv => whnf)
    refine LoadV.cell0 hc ?_
    (conv => whnf)
    refine CallV.of (less_any l[(i + j) / 2] x w1) ?_
    rintro v w1 ⟨rfl, rfl⟩
    cases q : slt l[(i + j) / 2] x
    · (conv => whnf)
      (repeat' (first
      | (refine Obl.mk ⟨by omega, by omega⟩ ?_; conv => whnf)
      | (refine Obl.mk ⟨by omega, by omega, ⟨by omega, by omega⟩⟩ ?_; conv => whnf)
      | ((with_reducible refine Tst.tt ?_); conv => whnf)
      | ((with_reducible refine Tst.ff ?_); conv => whnf)
      | ((with_reducible refine Tst.dec (fun _ => ?_) (fun _ => ?_)) <;> first | (exfalso; omega) | (conv => whnf))
      | ((with_reducible refine Tst.not ?_))
      | (refine Wit.conv ⟨by omega, by omega⟩ ?_; conv => whnf)
      | ((with_reducible refine IdxV.nat (by omega) ?_); conv => whnf)
      | ((with_reducible refine SameW.mk rfl ?_); conv => whnf)
      | (refine LoadV.mem (i := 0) (by assumption) rfl rfl ?_; conv => whnf)
      | (refine LoadV.mem (i := 1) (by assumption) rfl rfl ?_; conv => whnf)
      | (refine LoadV.mem (i := 2) (by assumption) rfl rfl ?_; conv => whnf)
      | ((with_reducible refine Tst.beqT ?_))
      | ((with_reducible refine Tst.beqF ?_))
      | (refine Tst.yes rfl ?_; conv => whnf)
      | (refine Tst.no rfl ?_; conv => whnf)))
      refine ⟨(i, (i + j) / 2), ⟨rfl, rfl, rfl, rfl, rfl, trivial⟩, ⟨by simp only; omega, by simp only; omega, h3, fun a ha h0 => ?_, rfl⟩, by simp only; omega⟩
      simp only at h0
      by_cases e : a = (i + j) / 2
      · subst e; exact q
      · rw [← Bool.not_eq_true]
        intro hc
        rw [slt_trans (hlt _ _ hm ha (by omega)) hc] at q
        cases q
    · (conv => whnf)
      (repeat' (first
      | (refine Obl.mk ⟨by omega, by omega⟩ ?_; conv => whnf)
      | (refine Obl.mk ⟨by omega, by omega, ⟨by omega, by omega⟩⟩ ?_; conv => whnf)
      | ((with_reducible refine Tst.tt ?_); conv => whnf)
      | ((with_reducible refine Tst.ff ?_); conv => whnf)
      | ((with_reducible refine Tst.dec (fun _ => ?_) (fun _ => ?_)) <;> first | (exfalso; omega) | (conv => whnf))
      | ((with_reducible refine Tst.not ?_))
      | (refine Wit.conv ⟨by omega, by omega⟩ ?_; conv => whnf)
      | ((with_reducible refine IdxV.nat (by omega) ?_); conv => whnf)
      | ((with_reducible refine SameW.mk rfl ?_); conv => whnf)
      | (refine LoadV.mem (i := 0) (by assumption) rfl rfl ?_; conv => whnf)
      | (refine LoadV.mem (i := 1) (by assumption) rfl rfl ?_; conv => whnf)
      | (refine LoadV.mem (i := 2) (by assumption) rfl rfl ?_; conv => whnf)
      | ((with_reducible refine Tst.beqT ?_))
      | ((with_reducible refine Tst.beqF ?_))
      | (refine Tst.yes rfl ?_; conv => whnf)
      | (refine Tst.no rfl ?_; conv => whnf)))
      refine ⟨((i + j) / 2 + 1, j), ⟨rfl, rfl, rfl, rfl, rfl, trivial⟩, ⟨by simp only; omega, by simp only; omega, fun a ha h0 => ?_, h4, rfl⟩, by simp only; omega⟩
      simp only at h0
      by_cases e : a = (i + j) / 2
      · subst e; exact q
      · exact slt_trans (hlt _ _ ha hm (by omega)) q
  · have hij : i = j := by omega
    subst hij
    have hi : i < l.length := by omega
    have hnot : l[i] ≠ x → inL l x = false := fun hne => by
      rw [← Bool.not_eq_true, inL_iff]
      intro hx
      obtain ⟨a, ha, e⟩ := List.mem_iff_getElem.1 hx
      rcases Nat.lt_trichotomy a i with h | h | h
      · have := h3 a ha h
        rw [e, slt_irrefl] at this; cases this
      · subst h; exact hne e
      · have := hlt i a hi ha h
        rw [e, h4 i hi (Nat.le_refl _)] at this
        cases this
    refine ElemV.sl hS rfl i rfl hi ?_
    intro eb eo hc
    (conv => whnf)
    (repeat' (first
      | (refine Obl.mk ⟨by omega, by omega⟩ ?_; conv => whnf)
      | (refine Obl.mk ⟨by omega, by omega, ⟨by omega, by omega⟩⟩ ?_; conv => whnf)
      | ((with_reducible refine Tst.tt ?_); conv => whnf)
      | ((with_reducible refine Tst.ff ?_); conv => whnf)
      | ((with_reducible refine Tst.dec (fun _ => ?_) (fun _ => ?_)) <;> first | (exfalso; omega) | (conv => whnf))
      | ((with_reducible refine Tst.not ?_))
      | (refine Wit.conv ⟨by omega, by omega⟩ ?_; conv => whnf)
      | ((with_reducible refine IdxV.nat (by omega) ?_); conv => whnf)
      | ((with_reducible refine SameW.mk rfl ?_); conv => whnf)
      | (refine LoadV.mem (i := 0) (by assumption) rfl rfl ?_; conv => whnf)
      | (refine LoadV.mem (i := 1) (by assumption) rfl rfl ?_; conv => whnf)
      | (refine LoadV.mem (i := 2) (by assumption) rfl rfl ?_; conv => whnf)
      | ((with_reducible refine Tst.beqT ?_))
      | ((with_reducible refine Tst.beqF ?_))
      | (refine Tst.yes rfl ?_; conv => whnf)
      | (refine Tst.no rfl ?_; conv => whnf)))
    refine LoadV.cell0 hc ?_
    (conv => whnf)
    (repeat' (first
      | (refine Obl.mk ⟨by omega, by omega⟩ ?_; conv => whnf)
      | (refine Obl.mk ⟨by omega, by omega, ⟨by omega, by omega⟩⟩ ?_; conv => whnf)
      | ((with_reducible refine Tst.tt ?_); conv => whnf)
      | ((with_reducible refine Tst.ff ?_); conv => whnf)
      | ((with_reducible refine Tst.dec (fun _ => ?_) (fun _ => ?_)) <;> first | (exfalso; omega) | (conv => whnf))
      | ((with_reducible refine Tst.not ?_))
      | (refine Wit.conv ⟨by omega, by omega⟩ ?_; conv => whnf)
      | ((with_reducible refine IdxV.nat (by omega) ?_); conv => whnf)
      | ((with_reducible refine SameW.mk rfl ?_); conv => whnf)
      | (refine LoadV.mem (i := 0) (by assumption) rfl rfl ?_; conv => whnf)
      | (refine LoadV.mem (i := 1) (by assumption) rfl rfl ?_; conv => whnf)
      | (refine LoadV.mem (i := 2) (by assumption) rfl rfl ?_; conv => whnf)
      | ((with_reducible refine Tst.beqT ?_))
      | ((with_reducible refine Tst.beqF ?_))
      | (refine Tst.yes rfl ?_; conv => whnf)
      | (refine Tst.no rfl ?_; conv => whnf)))
    cases q : seq l[i] x
    · have hx := hnot (seq_false.1 q)
      (conv => whnf)
      (repeat' (first
      | (refine Obl.mk ⟨by omega, by omega⟩ ?_; conv => whnf)
      | (refine Obl.mk ⟨by omega, by omega, ⟨by omega, by omega⟩⟩ ?_; conv => whnf)
      | ((with_reducible refine Tst.tt ?_); conv => whnf)
      | ((with_reducible refine Tst.ff ?_); conv => whnf)
      | ((with_reducible refine Tst.dec (fun _ => ?_) (fun _ => ?_)) <;> first | (exfalso; omega) | (conv => whnf))
      | ((with_reducible refine Tst.not ?_))
      | (refine Wit.conv ⟨by omega, by omega⟩ ?_; conv => whnf)
      | ((with_reducible refine IdxV.nat (by omega) ?_); conv => whnf)
      | ((with_reducible refine SameW.mk rfl ?_); conv => whnf)
      | (refine LoadV.mem (i := 0) (by assumption) rfl rfl ?_; conv => whnf)
      | (refine LoadV.mem (i := 1) (by assumption) rfl rfl ?_; conv => whnf)
      | (refine LoadV.mem (i := 2) (by assumption) rfl rfl ?_; conv => whnf)
      | ((with_reducible refine Tst.beqT ?_))
      | ((with_reducible refine Tst.beqF ?_))
      | (refine Tst.yes rfl ?_; conv => whnf)
      | (refine Tst.no rfl ?_; conv => whnf)))
      refine ElemV.sl hS rfl i rfl hi ?_
      intro eb eo hc
      (conv => whnf)
      (repeat' (first
      | (refine Obl.mk ⟨by omega, by omega⟩ ?_; conv => whnf)
      | (refine Obl.mk ⟨by omega, by omega, ⟨by omega, by omega⟩⟩ ?_; conv => whnf)
      | ((with_reducible refine Tst.tt ?_); conv => whnf)
      | ((with_reducible refine Tst.ff ?_); conv => whnf)
      | ((with_reducible refine Tst.dec (fun _ => ?_) (fun _ => ?_)) <;> first | (exfalso; omega) | (conv => whnf))
      | ((with_reducible refine Tst.not ?_))
      | (refine Wit.conv ⟨by omega, by omega⟩ ?_; conv => whnf)
      | ((with_reducible refine IdxV.nat (by omega) ?_); conv => whnf)
      | ((with_reducible refine SameW.mk rfl ?_); conv => whnf)
      | (refine LoadV.mem (i := 0) (by assumption) rfl rfl ?_; conv => whnf)
      | (refine LoadV.mem (i := 1) (by assumption) rfl rfl ?_; conv => whnf)
      | (refine LoadV.mem (i := 2) (by assumption) rfl rfl ?_; conv => whnf)
      | ((with_reducible refine Tst.beqT ?_))
      | ((with_reducible refine Tst.beqF ?_))
      | (refine Tst.yes rfl ?_; conv => whnf)
      | (refine Tst.no rfl ?_; conv => whnf)))
      refine LoadV.cell0 hc ?_
      (conv => whnf)
      (repeat' (first
      | (refine Obl.mk ⟨by omega, by omega⟩ ?_; conv => whnf)
      | (refine Obl.mk ⟨by omega, by omega, ⟨by omega, by omega⟩⟩ ?_; conv => whnf)
      | ((with_reducible refine Tst.tt ?_); conv => whnf)
      | ((with_reducible refine Tst.ff ?_); conv => whnf)
      | ((with_reducible refine Tst.dec (fun _ => ?_) (fun _ => ?_)) <;> first | (exfalso; omega) | (conv => whnf))
      | ((with_reducible refine Tst.not ?_))
      | (refine Wit.conv ⟨by omega, by omega⟩ ?_; conv => whnf)
      | ((with_reducible refine IdxV.nat (by omega) ?_); conv => whnf)
      | ((with_reducible refine SameW.mk rfl ?_); conv => whnf)
      | (refine LoadV.mem (i := 0) (by assumption) rfl rfl ?_; conv => whnf)
      | (refine LoadV.mem (i := 1) (by assumption) rfl rfl ?_; conv => whnf)
      | (refine LoadV.mem (i := 2) (by assumption) rfl rfl ?_; conv => whnf)
      | ((with_reducible refine Tst.beqT ?_))
      | ((with_reducible refine Tst.beqF ?_))
      | (refine Tst.yes rfl ?_; conv => whnf)
      | (refine Tst.no rfl ?_; conv => whnf)))
      refine CallV.of (nan2_any l[i] w1) ?_
      rintro v w1 ⟨rfl, rfl⟩
      (conv => whnf)
      (repeat' (first
      | (refine Obl.mk ⟨by omega, by omega⟩ ?_; conv => whnf)
      | (refine Obl.mk ⟨by omega, by omega, ⟨by omega, by omega⟩⟩ ?_; conv => whnf)
      | ((with_reducible refine Tst.tt ?_); conv => whnf)
      | ((with_reducible refine Tst.ff ?_); conv => whnf)
      | ((with_reducible refine Tst.dec (fun _ => ?_) (fun _ => ?_)) <;> first | (exfalso; omega) | (conv => whnf))
      | ((with_reducible refine Tst.not ?_))
      | (refine Wit.conv ⟨by omega, by omega⟩ ?_; conv => whnf)
      | ((with_reducible refine IdxV.nat (by omega) ?_); conv => whnf)
      | ((with_reducible refine SameW.mk rfl ?_); conv => whnf)
      | (refine LoadV.mem (i := 0) (by assumption) rfl rfl ?_; conv => whnf)
      | (refine LoadV.mem (i := 1) (by assumption) rfl rfl ?_; conv => whnf)
      | (refine LoadV.mem (i := 2) (by assumption) rfl rfl ?_; conv => whnf)
      | ((with_reducible refine Tst.beqT ?_))
      | ((with_reducible refine Tst.beqF ?_))
      | (refine Tst.yes rfl ?_; conv => whnf)
      | (refine Tst.no rfl ?_; conv => whnf)))
      exact ⟨⟨i, by rw [hx]⟩, rfl⟩
    · have hx : inL l x = true := inL_iff.2 (by rw [← seq_iff.1 q]; exact List.getElem_mem hi)
      (conv => whnf)
      (repeat' (first
      | (refine Obl.mk ⟨by omega, by omega⟩ ?_; conv => whnf)
      | (refine Obl.mk ⟨by omega, by omega, ⟨by omega, by omega⟩⟩ ?_; conv => whnf)
      | ((with_reducible refine Tst.tt ?_); conv => whnf)
      | ((with_reducible refine Tst.ff ?_); conv => whnf)
      | ((with_reducible refine Tst.dec (fun _ => ?_) (fun _ => ?_)) <;> first | (exfalso; omega) | (conv => whnf))
      | ((with_reducible refine Tst.not ?_))
      | (refine Wit.conv ⟨by omega, by omega⟩ ?_; conv => whnf)
      | ((with_reducible refine IdxV.nat (by omega) ?_); conv => whnf)
      | ((with_reducible refine SameW.mk rfl ?_); conv => whnf)
      | (refine LoadV.mem (i := 0) (by assumption) rfl rfl ?_; conv => whnf)
      | (refine LoadV.mem (i := 1) (by assumption) rfl rfl ?_; conv => whnf)
      | (refine LoadV.mem (i := 2) (by assumption) rfl rfl ?_; conv => whnf)
      | ((with_reducible refine Tst.beqT ?_))
      | ((with_reducible refine Tst.beqF ?_))
      | (refine Tst.yes rfl ?_; conv => whnf)
      | (refine Tst.no rfl ?_; conv => whnf)))
      exact ⟨⟨i, by rw [hx]⟩, rfl⟩
  · have hx : inL l x = false := by
      rw [← Bool.not_eq_true, inL_iff]
      intro hx
      obtain ⟨a, ha, e⟩ := List.mem_iff_getElem.1 hx
      have := h3 a ha (by omega)
      rw [e, slt_irrefl] at this; cases this
    exact ⟨⟨i, by rw [hx]⟩, rfl⟩
theorem known_any (vb : Nat) (l : List ByteArray) (hs : Sorted l) (A : Option Addr) (c : Nat) (x : ByteArray) (w : World) (hS : SlAt V.encS 1 w A l) (hn : l.length ≤ 4611686018427387903) (hl : w.cell? ⟨vb, 0, none⟩ = some (.slice A l.length c)) :
    Gv Tryz.prog 45 [.string x, .pointer (some ⟨vb, 0, none⟩)] w fun v w' => v = .bool (inL l x) ∧ w' = w := by
  refine gv (by kernel_rfl) Tryz.func45 rfl Tryz.ntmps45 rfl ?_; conv => whnf
  refine LoadV.of hl ?_
  (conv => whnf)
  refine CallV.of (search_any l hs A c x w hS hn) ?_
  rintro v w1 ⟨⟨i, rfl⟩, rfl⟩
  (conv => whnf)
  exact ⟨rfl, rfl⟩
/-- a row that a call has made, beside the blocks from before -/
theorem V.Rw.fresh {w0 w w' : World} {v : Value} {e : TypeId} {n : Nat} {xs : List Value} {L : List (Nat × Obj)} (hm : Mem w0 w L) (he : Ext w w') (h : w'.ownsRow w.heap.size e 1 v n xs) : Rw w0 w' v e 1 n xs L := by
  refine ⟨hm.call he, ⟨h.1, h.2.imp id fun ⟨g, cap, cur, e1, hb, r⟩ => ⟨g, cap, cur, e1, Nat.le_trans hm.ext.size hb, r⟩⟩, fun x hx e => ?_⟩
  have h1 := (h.lt x.1 e).1
  have h2 := hm.lt (b := x.1) (o := x.2) hx
  omega
theorem clone_any {w0 : World} {L : List (Nat × Obj)} (l : List ByteArray) (A : Option Addr) (c : Nat) (w : World) (hm : Mem w0 w L) (hS : SlAt V.encS 1 w A l) (hn : l.length ≤ 1048576) :
    Gv Tryz.prog 48 [.slice A l.length c] w fun v w' => ∃ B d, v = .slice B l.length d ∧ Rw w0 w' (.slice B l.length d) 9 1 l.length (l.map Value.string) L := by
  refine ⟨by kernel_rfl, ?_⟩
  cases A with
  | none =>
    have h0 : l = [] := by
      cases l with
      | nil => rfl
      | cons x r => obtain ⟨b, off, h0, _⟩ := hS.at_ (by simp); cases h0
    subst h0
    refine (Tryz.slices_Clone_string_nil 0 c w).mono fun e w' ⟨he, hw⟩ => ?_
    subst he hw
    exact ⟨_, rfl, none, 0, rfl, Rw.nil hm⟩
  | some a =>
    cases l with
    | nil =>
      refine (Tryz.slices_Clone_string_zero a c w).mono fun e w' ⟨v', he, hown, _, hB⟩ => ?_
      subst he
      have hR := V.Rw.fresh hm hB hown
      obtain ⟨B, d, rfl⟩ := hR.slice
      exact ⟨_, rfl, B, d, rfl, hR⟩
    | cons x r =>
      obtain ⟨b, off, h0, hc⟩ := hS.at_ (by simp)
      cases h0
      refine (Tryz.slices_Clone_string b off (x :: r).length c (x :: r) w (Nat.le_refl _) (by omega) (fun j hj => ?_)).mono fun e w' ⟨v', he, hown, _, hB⟩ => ?_
      · have := hc j _ (List.getElem?_eq_getElem hj) 0 _ rfl
        rw [Nat.mul_one, Nat.add_zero] at this
        rw [this, List.getD_eq_getElem?_getD, List.getElem?_eq_getElem hj]; rfl
      · subst he
        rw [List.take_of_length_le (Nat.le_refl _)] at hown
        have hR := V.Rw.fresh hm hB hown
        obtain ⟨B, d, rfl⟩ := hR.slice
        exact ⟨_, rfl, B, d, rfl, hR⟩
end Go.Proofs.YtajgbepghniciaaGreatDoor
