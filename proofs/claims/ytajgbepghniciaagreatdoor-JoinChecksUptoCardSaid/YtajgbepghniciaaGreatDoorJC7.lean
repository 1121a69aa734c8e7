/- Lemmas and contracts of functions on the way to the law's card (part 7 of 17). -/
import Derived.Test.YtajgbepghniciaaGreatDoorJC6
namespace Go.Proofs.YtajgbepghniciaaGreatDoor
open Go.RowKit V
set_option maxRecDepth 100000

def drop3 : Nat → List ByteArray → List ByteArray
  | 0, l => l
  | _, [] => []
  | k + 1, x :: xs => if madeB x 3 3 true = true then drop3 k xs else x :: xs
def langR : List ByteArray → Option (List ByteArray)
  | [] => none
  | x :: xs => if madeB x 2 8 true = true then some (if 3 < x.size then xs else drop3 3 xs) else none
def tagC (a0 a1 a2 a3 : ByteArray) (V E : Value) (a6 : ByteArray) : List Value := [.string a0, .string a1, .string a2, .string a3, V, E, .string a6]
section
variable {w0 w : World} {L : List (Nat × Obj)} {i rb n c off : Nat} {A : Option Addr} {t : List Value} {v : Value}
theorem rd_store {K : World → Prop} (hm : Mem w0 w L) (hi : L[i]? = some (rb, rdC A n c t)) (k : Nat) (ho : off = 1 + k) (hk : k < t.length) (h1 : oneCell v = true) (hw : ∀ w', Mem w0 w' (L.set i (rb, rdC A n c (t.set k v))) → K w') : StoreV w rb off v K := by
  subst ho
  refine StoreV.mem hm hi (by simp; omega) h1 fun w' h => hw w' ?_
  have e : (Value.slice A n c :: t).toArray.setIfInBounds (1 + k) v = (Value.slice A n c :: t.set k v).toArray := by
    rw [List.setIfInBounds_toArray, Nat.add_comm 1 k, List.set_cons_succ]
  rw [e] at h
  exact h
theorem rd_load {K : Value → Prop} (hm : Mem w0 w L) (hi : L[i]? = some (rb, rdC A n c t)) (k : Nat) (ho : off = 1 + k) (hv : t[k]? = some v) (hk : K v) : LoadV w rb off K := by
  subst ho
  exact LoadV.mem hm hi (by rw [List.getElem?_toArray, Nat.add_comm 1 k, List.getElem?_cons_succ]; exact hv) hk
end
theorem lang1_any (x : ByteArray) (hs : x.size ≤ 140737488355328) (w : World) : Gv Tryz.prog 257 [.string x] w fun v w' => v = .bool (madeB x 2 8 true) ∧ Ext w w' := by
  have h1 := made_any x 2 8 true hs w
  refine gv (by kernel_rfl) Tryz.func257 rfl Tryz.ntmps257 rfl ?_; conv => whnf
  refine CallV.of (h1) ?_
  rintro v w' ⟨rfl, he⟩
  (conv => whnf)
  exact ⟨rfl, he⟩
theorem lang2_any (x : ByteArray) (hs : x.size ≤ 140737488355328) (w : World) : Gv Tryz.prog 259 [.string x] w fun v w' => v = .bool (madeB x 3 3 true) ∧ Ext w w' := by
  have h1 := made_any x 3 3 true hs w
  refine gv (by kernel_rfl) Tryz.func259 rfl Tryz.ntmps259 rfl ?_; conv => whnf
  refine CallV.of (h1) ?_
  rintro v w' ⟨rfl, he⟩
  (conv => whnf)
  exact ⟨rfl, he⟩
theorem language_any (rb i : Nat) (rest : List ByteArray) (A : Option Addr) (c : Nat) (a0 a2 a3 a6 : ByteArray) (V E : Value) (w0 w : World) (L : List (Nat × Obj)) (hm : Mem w0 w L) (hi : L[i]? = some (rb, rdC A rest.length c (tagC a0 ⟨#[]⟩ a2 a3 V E a6)))
    (hS : SlAt Go.Proofs.YtajgbepghniciaaGreatDoor.V.encS 1 w0 A rest) (hc : rest.length ≤ c) (hx : ∀ x ∈ rest, x.size ≤ 1000000) :
    Gv Tryz.prog 213 [.pointer (some ⟨rb, 0, none⟩)] w fun v w' => (langR rest = none ∧ v = .bool false ∧ Ext w0 w') ∨
      (∃ rest', langR rest = some rest' ∧ v = .bool true ∧ ∃ A' c' b0 b1, SlAt Go.Proofs.YtajgbepghniciaaGreatDoor.V.encS 1 w0 A' rest' ∧ rest'.length ≤ c' ∧ Mem w0 w' (L.set i (rb, rdC A' rest'.length c' (tagC b0 b1 a2 a3 V E a6)))) := by
  have hil : i < L.length := (List.getElem?_eq_some_iff.1 hi).1
  refine gv (by kernel_rfl) Tryz.func213 rfl Tryz.ntmps213 rfl ?_; conv => whnf
  refine CallV.of (sees_any rb 257 [] (fun x => madeB x 2 8 true) rest A c _ w (hm.get (List.mem_of_getElem? hi)) (hS.ext hm.ext) (fun x ys w3 e he => lang1_any x (by have := hx x (by rw [e]; exact List.mem_cons_self ..); omega) w3)) ?_
  rintro v w1 ⟨rfl, he⟩
  have hm1 := hm.call he
  cases rest with
  | nil =>
    (conv => whnf)
    (repeat' (first
      | (refine Obl.mk ⟨by omega, by omega⟩ ?_; conv => whnf)
      | (refine Obl.mk ⟨by omega, by omega, ⟨by omega, by omega⟩⟩ ?_; conv => whnf)
      | ((with_reducible refine Tst.tt ?_); conv => whnf)
      | ((with_reducible refine Tst.ff ?_); conv => whnf)
      | ((with_reducible refine Tst.dec (fun _ => ?_) (fun _ => ?_)) <;> first | (exfalso; omega) | (conv => whnf))
      | ((with_reducible refine Tst.not ?_))
      | (refine Wit.conv ⟨by omega, by omega⟩ ?_; conv => whnf)
      | ((with_reducible refine IdxV.nat (by omega) ?_); conv => whnf)
      | ((with_reducible refine SameW.mk rfl ?_); conv => whnf)
      | (refine LoadV.mem (i := 0) (by assumption) rfl rfl ?_; conv => whnf)
      | (refine LoadV.mem (i := 1) (by assumption) rfl rfl ?_; conv => whnf)
      | (refine LoadV.mem (i := 2) (by assumption) rfl rfl ?_; conv => whnf)
      | ((with_reducible refine Tst.beqT ?_))
      | ((with_reducible refine Tst.beqF ?_))
      | (refine Tst.yes rfl ?_; conv => whnf)
      | (refine Tst.no rfl ?_; conv => whnf)))
    exact .inl ⟨rfl, rfl, hm1.ext⟩
  | cons x xs =>
    show putV _ _ _ (Value.bool (madeB x 2 8 true)) _
    cases hq : madeB x 2 8 true
    · (conv => whnf)
      (repeat' (first
      | (refine Obl.mk ⟨by omega, by omega⟩ ?_; conv => whnf)
      | (refine Obl.mk ⟨by omega, by omega, ⟨by omega, by omega⟩⟩ ?_; conv => whnf)
      | ((with_reducible refine Tst.tt ?_); conv => whnf)
      | ((with_reducible refine Tst.ff ?_); conv => whnf)
      | ((with_reducible refine Tst.dec (fun _ => ?_) (fun _ => ?_)) <;> first | (exfalso; omega) | (conv => whnf))
      | ((with_reducible refine Tst.not ?_))
      | (refine Wit.conv ⟨by omega, by omega⟩ ?_; conv => whnf)
      | ((with_reducible refine IdxV.nat (by omega) ?_); conv => whnf)
      | ((with_reducible refine SameW.mk rfl ?_); conv => whnf)
      | (refine LoadV.mem (i := 0) (by assumption) rfl rfl ?_; conv => whnf)
      | (refine LoadV.mem (i := 1) (by assumption) rfl rfl ?_; conv => whnf)
      | (refine LoadV.mem (i := 2) (by assumption) rfl rfl ?_; conv => whnf)
      | ((with_reducible refine Tst.beqT ?_))
      | ((with_reducible refine Tst.beqF ?_))
      | (refine Tst.yes rfl ?_; conv => whnf)
      | (refine Tst.no rfl ?_; conv => whnf)))
      exact .inl ⟨by rw [langR, if_neg (by rw [hq]; simp)], rfl, hm1.ext⟩
    · have hR : langR (x :: xs) = some (if 3 < x.size then xs else drop3 3 xs) := by rw [langR, if_pos hq]
      rw [hR]
      have hx1 := hx x (List.mem_cons_self ..)
      simp only [List.length_cons] at hi hm1 hc ⊢
      (conv => whnf)
      (repeat' (first
      | (refine Obl.mk ⟨by omega, by omega⟩ ?_; conv => whnf)
      | (refine Obl.mk ⟨by omega, by omega, ⟨by omega, by omega⟩⟩ ?_; conv => whnf)
      | ((with_reducible refine Tst.tt ?_); conv => whnf)
      | ((with_reducible refine Tst.ff ?_); conv => whnf)
      | ((with_reducible refine Tst.dec (fun _ => ?_) (fun _ => ?_)) <;> first | (exfalso; omega) | (conv => whnf))
      | ((with_reducible refine Tst.not ?_))
      | (refine Wit.conv ⟨by omega, by omega⟩ ?_; conv => whnf)
      | ((with_reducible refine IdxV.nat (by omega) ?_); conv => whnf)
      | ((with_reducible refine SameW.mk rfl ?_); conv => whnf)
      | (refine LoadV.mem (i := 0) (by assumption) rfl rfl ?_; conv => whnf)
      | (refine LoadV.mem (i := 1) (by assumption) rfl rfl ?_; conv => whnf)
      | (refine LoadV.mem (i := 2) (by assumption) rfl rfl ?_; conv => whnf)
      | ((with_reducible refine Tst.beqT ?_))
      | ((with_reducible refine Tst.beqF ?_))
      | (refine Tst.yes rfl ?_; conv => whnf)
      | (refine Tst.no rfl ?_; conv => whnf)))
      refine CallV.of (next2_any rb i x xs A c _ w0 w1 L hm1 hi hS hc) ?_
      rintro v w2 ⟨rfl, A2, c2, hS2, hc2, hm2⟩
      (conv => whnf)
      refine rd_store hm2 (List.getElem?_set_self hil) 0 rfl (show 0 < 7 by decide) rfl ?_
      intro w3 hm3
      rw [List.set_set] at hm3
      replace hm3 : Mem w0 w3 (L.set i (rb, rdC A2 xs.length c2 (tagC x ⟨#[]⟩ a2 a3 V E a6))) := hm3
      (conv => whnf)
      refine rd_load hm3 (List.getElem?_set_self hil) 0 rfl rfl ?_
      (conv => whnf)
      (repeat' (first
      | (refine Obl.mk ⟨by omega, by omega⟩ ?_; conv => whnf)
      | (refine Obl.mk ⟨by omega, by omega, ⟨by omega, by omega⟩⟩ ?_; conv => whnf)
      | ((with_reducible refine Tst.tt ?_); conv => whnf)
      | ((with_reducible refine Tst.ff ?_); conv => whnf)
      | ((with_reducible refine Tst.dec (fun _ => ?_) (fun _ => ?_)) <;> first | (exfalso; omega) | (conv => whnf))
      | ((with_reducible refine Tst.not ?_))
      | (refine Wit.conv ⟨by omega, by omega⟩ ?_; conv => whnf)
      | ((with_reducible refine IdxV.nat (by omega) ?_); conv => whnf)
      | ((with_reducible refine SameW.mk rfl ?_); conv => whnf)
      | (refine LoadV.mem (i := 0) (by assumption) rfl rfl ?_; conv => whnf)
      | (refine LoadV.mem (i := 1) (by assumption) rfl rfl ?_; conv => whnf)
      | (refine LoadV.mem (i := 2) (by assumption) rfl rfl ?_; conv => whnf)
      | ((with_reducible refine Tst.beqT ?_))
      | ((with_reducible refine Tst.beqF ?_))
      | (refine Tst.yes rfl ?_; conv => whnf)
      | (refine Tst.no rfl ?_; conv => whnf)))
      · rw [if_pos (by omega)]
        exact .inr ⟨xs, rfl, rfl, A2, c2, x, ⟨#[]⟩, hS2, hc2, hm3⟩
      · rw [if_neg (by omega)]
        refine loopV (fun x : Nat × List ByteArray × Option Addr × Nat × ByteArray => [(0, .pointer (some ⟨rb, 0, none⟩)), (3, .int .i64 x.1)])
          (fun y w2 => y.1 ≤ 3 ∧ drop3 3 xs = drop3 (3 - y.1) y.2.1 ∧ y.2.2.2.2.size ≤ y.1 * 1000001 ∧ (∀ x ∈ y.2.1, x.size ≤ 1000000) ∧ SlAt Go.Proofs.YtajgbepghniciaaGreatDoor.V.encS 1 w0 y.2.2.1 y.2.1 ∧ y.2.1.length ≤ y.2.2.2.1 ∧ Mem w0 w2 (L.set i (rb, rdC y.2.2.1 y.2.1.length y.2.2.2.1 (tagC x y.2.2.2.2 a2 a3 V E a6))))
          (fun y => 3 - y.1) (0, xs, A2, c2, ⟨#[]⟩) ⟨rfl, rfl, trivial⟩ ⟨by simp, rfl, by simp; rfl, fun y hy => hx y (List.mem_cons_of_mem _ hy), hS2, hc2, hm3⟩ ?_
        rintro ⟨k, ys, B, d, s⟩ w4 ρ' ⟨h1, h2, h3, h4, hS4, hc4, hm4⟩
        simp only at h1 h2 h3 h4 hS4 hc4 hm4
        dsimp only
        (conv => whnf)
        (repeat' (first
      | (refine Obl.mk ⟨by omega, by omega⟩ ?_; conv => whnf)
      | (refine Obl.mk ⟨by omega, by omega, ⟨by omega, by omega⟩⟩ ?_; conv => whnf)
      | ((with_reducible refine Tst.tt ?_); conv => whnf)
      | ((with_reducible refine Tst.ff ?_); conv => whnf)
      | ((with_reducible refine Tst.dec (fun _ => ?_) (fun _ => ?_)) <;> first | (exfalso; omega) | (conv => whnf))
      | ((with_reducible refine Tst.not ?_))
      | (refine Wit.conv ⟨by omega, by omega⟩ ?_; conv => whnf)
      | ((with_reducible refine IdxV.nat (by omega) ?_); conv => whnf)
      | ((with_reducible refine SameW.mk rfl ?_); conv => whnf)
      | (refine LoadV.mem (i := 0) (by assumption) rfl rfl ?_; conv => whnf)
      | (refine LoadV.mem (i := 1) (by assumption) rfl rfl ?_; conv => whnf)
      | (refine LoadV.mem (i := 2) (by assumption) rfl rfl ?_; conv => whnf)
      | ((with_reducible refine Tst.beqT ?_))
      | ((with_reducible refine Tst.beqF ?_))
      | (refine Tst.yes rfl ?_; conv => whnf)
      | (refine Tst.no rfl ?_; conv => whnf)))
        · have hk : 3 - k = (2 - k) + 1 := by omega
          refine CallV.of (sees_any rb 259 [] (fun x => madeB x 3 3 true) ys B d _ w4 (hm4.get (List.mem_of_getElem? (List.getElem?_set_self hil))) (hS4.ext hm4.ext) (fun x zs w3 e he => lang2_any x (by have := h4 x (by rw [e]; exact List.mem_cons_self ..); omega) w3)) ?_
          rintro v w5 ⟨rfl, he5⟩
          have hm5 := hm4.call he5
          cases ys with
          | nil =>
            (conv => whnf)
            (repeat' (first
      | (refine Obl.mk ⟨by omega, by omega⟩ ?_; conv => whnf)
      | (refine Obl.mk ⟨by omega, by omega, ⟨by omega, by omega⟩⟩ ?_; conv => whnf)
      | ((with_reducible refine Tst.tt ?_); conv => whnf)
      | ((with_reducible refine Tst.ff ?_); conv => whnf)
      | ((with_reducible refine Tst.dec (fun _ => ?_) (fun _ => ?_)) <;> first | (exfalso; omega) | (conv => whnf))
      | ((with_reducible refine Tst.not ?_))
      | (refine Wit.conv ⟨by omega, by omega⟩ ?_; conv => whnf)
      | ((with_reducible refine IdxV.nat (by omega) ?_); conv => whnf)
      | ((with_reducible refine SameW.mk rfl ?_); conv => whnf)
      | (refine LoadV.mem (i := 0) (by assumption) rfl rfl ?_; conv => whnf)
      | (refine LoadV.mem (i := 1) (by assumption) rfl rfl ?_; conv => whnf)
      | (refine LoadV.mem (i := 2) (by assumption) rfl rfl ?_; conv => whnf)
      | ((with_reducible refine Tst.beqT ?_))
      | ((with_reducible refine Tst.beqF ?_))
      | (refine Tst.yes rfl ?_; conv => whnf)
      | (refine Tst.no rfl ?_; conv => whnf)))
            refine .inr ⟨[], ?_, rfl, B, d, x, s, hS4, hc4, hm5⟩
            rw [h2, hk]; rfl
          | cons y zs =>
            show putV _ _ _ (Value.bool (madeB y 3 3 true)) _
            have hd3 : drop3 (2 - k + 1) (y :: zs) = if madeB y 3 3 true = true then drop3 (2 - k) zs else y :: zs := rfl
            rw [hk, hd3] at h2
            cases hq : madeB y 3 3 true
            · rw [if_neg (by rw [hq]; simp)] at h2
              (conv => whnf)
              (repeat' (first
      | (refine Obl.mk ⟨by omega, by omega⟩ ?_; conv => whnf)
      | (refine Obl.mk ⟨by omega, by omega, ⟨by omega, by omega⟩⟩ ?_; conv => whnf)
      | ((with_reducible refine Tst.tt ?_); conv => whnf)
      | ((with_reducible refine Tst.ff ?_); conv => whnf)
      | ((with_reducible refine Tst.dec (fun _ => ?_) (fun _ => ?_)) <;> first | (exfalso; omega) | (conv => whnf))
      | ((with_reducible refine Tst.not ?_))
      | (refine Wit.conv ⟨by omega, by omega⟩ ?_; conv => whnf)
      | ((with_reducible refine IdxV.nat (by omega) ?_); conv => whnf)
      | ((with_reducible refine SameW.mk rfl ?_); conv => whnf)
      | (refine LoadV.mem (i := 0) (by assumption) rfl rfl ?_; conv => whnf)
      | (refine LoadV.mem (i := 1) (by assumption) rfl rfl ?_; conv => whnf)
      | (refine LoadV.mem (i := 2) (by assumption) rfl rfl ?_; conv => whnf)
      | ((with_reducible refine Tst.beqT ?_))
      | ((with_reducible refine Tst.beqF ?_))
      | (refine Tst.yes rfl ?_; conv => whnf)
      | (refine Tst.no rfl ?_; conv => whnf)))
              exact .inr ⟨y :: zs, by rw [h2], rfl, B, d, x, s, hS4, hc4, hm5⟩
            · rw [if_pos hq] at h2
              simp only [List.length_cons] at hm5 hc4 ⊢
              have hy := h4 y (List.mem_cons_self ..)
              (conv => whnf)
              (repeat' (first
      | (refine Obl.mk ⟨by omega, by omega⟩ ?_; conv => whnf)
      | (refine Obl.mk ⟨by omega, by omega, ⟨by omega, by omega⟩⟩ ?_; conv => whnf)
      | ((with_reducible refine Tst.tt ?_); conv => whnf)
      | ((with_reducible refine Tst.ff ?_); conv => whnf)
      | ((with_reducible refine Tst.dec (fun _ => ?_) (fun _ => ?_)) <;> first | (exfalso; omega) | (conv => whnf))
      | ((with_reducible refine Tst.not ?_))
      | (refine Wit.conv ⟨by omega, by omega⟩ ?_; conv => whnf)
      | ((with_reducible refine IdxV.nat (by omega) ?_); conv => whnf)
      | ((with_reducible refine SameW.mk rfl ?_); conv => whnf)
      | (refine LoadV.mem (i := 0) (by assumption) rfl rfl ?_; conv => whnf)
      | (refine LoadV.mem (i := 1) (by assumption) rfl rfl ?_; conv => whnf)
      | (refine LoadV.mem (i := 2) (by assumption) rfl rfl ?_; conv => whnf)
      | ((with_reducible refine Tst.beqT ?_))
      | ((with_reducible refine Tst.beqF ?_))
      | (refine Tst.yes rfl ?_; conv => whnf)
      | (refine Tst.no rfl ?_; conv => whnf)))
              · -- k > 0
                refine rd_load hm5 (List.getElem?_set_self hil) 1 rfl rfl ?_
                (conv => whnf)
                refine ⟨by show s.size + 1 ≤ _; omega, ?_⟩
                (conv => whnf)
                refine rd_store hm5 (List.getElem?_set_self hil) 1 rfl (show 1 < 7 by decide) rfl ?_
                intro w7 hm7
                rw [List.set_set] at hm7
                replace hm7 : Mem w0 w7 (L.set i (rb, rdC B (zs.length + 1) d (tagC x (s ++ (⟨#[45]⟩ : ByteArray)) a2 a3 V E a6))) := hm7
                (conv => whnf)
                refine DrawV.inv (fun S w => (S 11 = false ∧ (bif S 6 then (∃ A' c', SlAt Go.Proofs.YtajgbepghniciaaGreatDoor.V.encS 1 w0 A' zs ∧ zs.length ≤ c' ∧ Mem w0 w (L.set i (rb, rdC A' zs.length c' (tagC x (s ++ (⟨#[45]⟩ : ByteArray)) a2 a3 V E a6)))) else Mem w0 w (L.set i (rb, rdC B (zs.length + 1) d (tagC x (s ++ (⟨#[45]⟩ : ByteArray)) a2 a3 V E a6))))) ∨
                    (S 11 = true ∧ S 4 = true ∧ S 6 = true ∧ ∃ A' c', SlAt Go.Proofs.YtajgbepghniciaaGreatDoor.V.encS 1 w0 A' zs ∧ zs.length ≤ c' ∧ Mem w0 w (L.set i (rb, rdC A' zs.length c' (tagC x ((s ++ (⟨#[45]⟩ : ByteArray)) ++ y) a2 a3 V E a6))))) rfl (by kernel_rfl) (.inl ⟨rfl, hm7.drew⟩) ?_
                (conv => whnf)
                (apply StepI.of; (· intro S wd hk hp hI; (conv => whnf); (first | exact ⟨rfl, hI⟩ | ((repeat' (first | (refine Obl.mk ⟨by omega, by omega⟩ ?_; conv => whnf) | (refine Obl.mk ⟨by omega, by omega, ⟨by omega, by omega⟩⟩ ?_; conv => whnf) | ((with_reducible refine Tst.tt ?_); conv => whnf) | ((with_reducible refine Tst.ff ?_); conv => whnf) | ((with_reducible refine Tst.dec (fun _ => ?_) (fun _ => ?_)) <;> first | (exfalso; omega) | (conv => whnf)) | ((with_reducible refine Tst.not ?_)) | (refine Wit.conv ⟨by omega, by omega⟩ ?_; conv => whnf) | ((with_reducible refine IdxV.nat (by omega) ?_); conv => whnf) | ((with_reducible refine SameW.mk rfl ?_); conv => whnf) | ((with_reducible refine Tst.beqT ?_)) | ((with_reducible refine Tst.beqF ?_)) | (refine Tst.yes rfl ?_; conv => whnf) | (refine Tst.no rfl ?_; conv => whnf))); exact ⟨rfl, hI⟩))); (conv => whnf))
                (apply StepI.of; (· intro S wd hk hp hI; (conv => whnf); (first | exact ⟨rfl, hI⟩ | ((repeat' (first | (refine Obl.mk ⟨by omega, by omega⟩ ?_; conv => whnf) | (refine Obl.mk ⟨by omega, by omega, ⟨by omega, by omega⟩⟩ ?_; conv => whnf) | ((with_reducible refine Tst.tt ?_); conv => whnf) | ((with_reducible refine Tst.ff ?_); conv => whnf) | ((with_reducible refine Tst.dec (fun _ => ?_) (fun _ => ?_)) <;> first | (exfalso; omega) | (conv => whnf)) | ((with_reducible refine Tst.not ?_)) | (refine Wit.conv ⟨by omega, by omega⟩ ?_; conv => whnf) | ((with_reducible refine IdxV.nat (by omega) ?_); conv => whnf) | ((with_reducible refine SameW.mk rfl ?_); conv => whnf) | ((with_reducible refine Tst.beqT ?_)) | ((with_reducible refine Tst.beqF ?_)) | (refine Tst.yes rfl ?_; conv => whnf) | (refine Tst.no rfl ?_; conv => whnf))); exact ⟨rfl, hI⟩))); (conv => whnf))
                (apply StepI.of; (· intro S wd hk hp hI; (conv => whnf); (first | exact ⟨rfl, hI⟩ | ((repeat' (first | (refine Obl.mk ⟨by omega, by omega⟩ ?_; conv => whnf) | (refine Obl.mk ⟨by omega, by omega, ⟨by omega, by omega⟩⟩ ?_; conv => whnf) | ((with_reducible refine Tst.tt ?_); conv => whnf) | ((with_reducible refine Tst.ff ?_); conv => whnf) | ((with_reducible refine Tst.dec (fun _ => ?_) (fun _ => ?_)) <;> first | (exfalso; omega) | (conv => whnf)) | ((with_reducible refine Tst.not ?_)) | (refine Wit.conv ⟨by omega, by omega⟩ ?_; conv => whnf) | ((with_reducible refine IdxV.nat (by omega) ?_); conv => whnf) | ((with_reducible refine SameW.mk rfl ?_); conv => whnf) | ((with_reducible refine Tst.beqT ?_)) | ((with_reducible refine Tst.beqF ?_)) | (refine Tst.yes rfl ?_; conv => whnf) | (refine Tst.no rfl ?_; conv => whnf))); exact ⟨rfl, hI⟩))); (conv => whnf))
                (apply StepI.of; (· intro S wd hk hp hI; (conv => whnf); (first | exact ⟨rfl, hI⟩ | ((repeat' (first | (refine Obl.mk ⟨by omega, by omega⟩ ?_; conv => whnf) | (refine Obl.mk ⟨by omega, by omega, ⟨by omega, by omega⟩⟩ ?_; conv => whnf) | ((with_reducible refine Tst.tt ?_); conv => whnf) | ((with_reducible refine Tst.ff ?_); conv => whnf) | ((with_reducible refine Tst.dec (fun _ => ?_) (fun _ => ?_)) <;> first | (exfalso; omega) | (conv => whnf)) | ((with_reducible refine Tst.not ?_)) | (refine Wit.conv ⟨by omega, by omega⟩ ?_; conv => whnf) | ((with_reducible refine IdxV.nat (by omega) ?_); conv => whnf) | ((with_reducible refine SameW.mk rfl ?_); conv => whnf) | ((with_reducible refine Tst.beqT ?_)) | ((with_reducible refine Tst.beqF ?_)) | (refine Tst.yes rfl ?_; conv => whnf) | (refine Tst.no rfl ?_; conv => whnf))); exact ⟨rfl, hI⟩))); (conv => whnf))
                refine StepI.of (.string (s ++ (⟨#[45]⟩ : ByteArray))) (fun S wd hk hp hI => ?_) ?_
                · obtain ⟨h11, hI⟩ := hI.resolve_right (fun h => by have := h.2.1; rw [hk] at this; cases this)
                  (conv => whnf)
                  cases h6 : S 6
                  · rw [h6] at hI
                    refine rd_load hI (List.getElem?_set_self hil) 1 rfl rfl ?_
                    (conv => whnf)
                    exact ⟨rfl, .inl ⟨h11, by show bif S 6 then _ else _; rw [h6]; exact hI⟩⟩
                  · rw [h6] at hI
                    obtain ⟨A', c', hS', hc', hM⟩ := hI
                    refine rd_load hM (List.getElem?_set_self hil) 1 rfl rfl ?_
                    (conv => whnf)
                    exact ⟨rfl, .inl ⟨h11, by show bif S 6 then _ else _; rw [h6]; exact ⟨A', c', hS', hc', hM⟩⟩⟩
                (conv => whnf)
                (apply StepI.of; (· intro S wd hk hp hI; (conv => whnf); (first | exact ⟨rfl, hI⟩ | ((repeat' (first | (refine Obl.mk ⟨by omega, by omega⟩ ?_; conv => whnf) | (refine Obl.mk ⟨by omega, by omega, ⟨by omega, by omega⟩⟩ ?_; conv => whnf) | ((with_reducible refine Tst.tt ?_); conv => whnf) | ((with_reducible refine Tst.ff ?_); conv => whnf) | ((with_reducible refine Tst.dec (fun _ => ?_) (fun _ => ?_)) <;> first | (exfalso; omega) | (conv => whnf)) | ((with_reducible refine Tst.not ?_)) | (refine Wit.conv ⟨by omega, by omega⟩ ?_; conv => whnf) | ((with_reducible refine IdxV.nat (by omega) ?_); conv => whnf) | ((with_reducible refine SameW.mk rfl ?_); conv => whnf) | ((with_reducible refine Tst.beqT ?_)) | ((with_reducible refine Tst.beqF ?_)) | (refine Tst.yes rfl ?_; conv => whnf) | (refine Tst.no rfl ?_; conv => whnf))); exact ⟨rfl, hI⟩))); (conv => whnf))
                refine StepI.of (.string y) (fun S wd hk hp hI => ?_) ?_
                · obtain ⟨h11, hI⟩ := hI.resolve_right (fun h => by have := h.2.2.1; rw [hk] at this; cases this)
                  have h6 : S 6 = false := hk
                  rw [h6] at hI
                  (conv => whnf)
                  refine CallV.of (next2_any rb i y zs B d _ w0 wd _ hI (List.getElem?_set_self hil) hS4 hc4) ?_
                  rintro v w6 ⟨rfl, A', c', hS', hc', hM'⟩
                  rw [List.set_set] at hM'
                  (conv => whnf)
                  exact ⟨rfl, .inl ⟨h11, A', c', hS', hc', hM'⟩⟩
                (conv => whnf)
                refine StepI.of (.string ((s ++ (⟨#[45]⟩ : ByteArray)) ++ y)) (fun S wd hk hp hI => ?_) ?_
                · (conv => whnf)
                  refine ⟨by rw [bsz]; show s.size + 1 + y.size ≤ _; omega, ?_⟩
                  (conv => whnf)
                  exact ⟨rfl, hI⟩
                (conv => whnf)
                (apply StepI.of; (· intro S wd hk hp hI; (conv => whnf); (first | exact ⟨rfl, hI⟩ | ((repeat' (first | (refine Obl.mk ⟨by omega, by omega⟩ ?_; conv => whnf) | (refine Obl.mk ⟨by omega, by omega, ⟨by omega, by omega⟩⟩ ?_; conv => whnf) | ((with_reducible refine Tst.tt ?_); conv => whnf) | ((with_reducible refine Tst.ff ?_); conv => whnf) | ((with_reducible refine Tst.dec (fun _ => ?_) (fun _ => ?_)) <;> first | (exfalso; omega) | (conv => whnf)) | ((with_reducible refine Tst.not ?_)) | (refine Wit.conv ⟨by omega, by omega⟩ ?_; conv => whnf) | ((with_reducible refine IdxV.nat (by omega) ?_); conv => whnf) | ((with_reducible refine SameW.mk rfl ?_); conv => whnf) | ((with_reducible refine Tst.beqT ?_)) | ((with_reducible refine Tst.beqF ?_)) | (refine Tst.yes rfl ?_; conv => whnf) | (refine Tst.no rfl ?_; conv => whnf))); exact ⟨rfl, hI⟩))); (conv => whnf))
                (apply StepI.of; (· intro S wd hk hp hI; (conv => whnf); (first | exact ⟨rfl, hI⟩ | ((repeat' (first | (refine Obl.mk ⟨by omega, by omega⟩ ?_; conv => whnf) | (refine Obl.mk ⟨by omega, by omega, ⟨by omega, by omega⟩⟩ ?_; conv => whnf) | ((with_reducible refine Tst.tt ?_); conv => whnf) | ((with_reducible refine Tst.ff ?_); conv => whnf) | ((with_reducible refine Tst.dec (fun _ => ?_) (fun _ => ?_)) <;> first | (exfalso; omega) | (conv => whnf)) | ((with_reducible refine Tst.not ?_)) | (refine Wit.conv ⟨by omega, by omega⟩ ?_; conv => whnf) | ((with_reducible refine IdxV.nat (by omega) ?_); conv => whnf) | ((with_reducible refine SameW.mk rfl ?_); conv => whnf) | ((with_reducible refine Tst.beqT ?_)) | ((with_reducible refine Tst.beqF ?_)) | (refine Tst.yes rfl ?_; conv => whnf) | (refine Tst.no rfl ?_; conv => whnf))); exact ⟨rfl, hI⟩))); (conv => whnf))
                (apply StepI.of; (· intro S wd hk hp hI; (conv => whnf); (first | exact ⟨rfl, hI⟩ | ((repeat' (first | (refine Obl.mk ⟨by omega, by omega⟩ ?_; conv => whnf) | (refine Obl.mk ⟨by omega, by omega, ⟨by omega, by omega⟩⟩ ?_; conv => whnf) | ((with_reducible refine Tst.tt ?_); conv => whnf) | ((with_reducible refine Tst.ff ?_); conv => whnf) | ((with_reducible refine Tst.dec (fun _ => ?_) (fun _ => ?_)) <;> first | (exfalso; omega) | (conv => whnf)) | ((with_reducible refine Tst.not ?_)) | (refine Wit.conv ⟨by omega, by omega⟩ ?_; conv => whnf) | ((with_reducible refine IdxV.nat (by omega) ?_); conv => whnf) | ((with_reducible refine SameW.mk rfl ?_); conv => whnf) | ((with_reducible refine Tst.beqT ?_)) | ((with_reducible refine Tst.beqF ?_)) | (refine Tst.yes rfl ?_; conv => whnf) | (refine Tst.no rfl ?_; conv => whnf))); exact ⟨rfl, hI⟩))); (conv => whnf))
                refine StepI.of undef (fun S wd hk hp hI => ?_) ?_
                · obtain ⟨h11, hI⟩ := hI.resolve_right (fun h => by have := h.1; rw [hk] at this; cases this)
                  have h4 := hp 4 (by decide)
                  have h6 := hp 6 (by decide)
                  rw [h6] at hI
                  obtain ⟨A', c', hS', hc', hM⟩ := hI
                  (conv => whnf)
                  refine rd_store hM (List.getElem?_set_self hil) 1 rfl (show 1 < 7 by decide) rfl ?_
                  intro w6 hM'
                  rw [List.set_set] at hM'
                  (conv => whnf)
                  exact ⟨rfl, .inr ⟨rfl, h4, h6, A', c', hS', hc', hM'⟩⟩
                (conv => whnf)
                intro w6 hI
                obtain ⟨_, _, _, A', c', hS', hc', hM⟩ := hI.resolve_left (fun h => by have := h.1; cases this)
                (conv => whnf)
                (repeat' (first
      | (refine Obl.mk ⟨by omega, by omega⟩ ?_; conv => whnf)
      | (refine Obl.mk ⟨by omega, by omega, ⟨by omega, by omega⟩⟩ ?_; conv => whnf)
      | ((with_reducible refine Tst.tt ?_); conv => whnf)
      | ((with_reducible refine Tst.ff ?_); conv => whnf)
      | ((with_reducible refine Tst.dec (fun _ => ?_) (fun _ => ?_)) <;> first | (exfalso; omega) | (conv => whnf))
      | ((with_reducible refine Tst.not ?_))
      | (refine Wit.conv ⟨by omega, by omega⟩ ?_; conv => whnf)
      | ((with_reducible refine IdxV.nat (by omega) ?_); conv => whnf)
      | ((with_reducible refine SameW.mk rfl ?_); conv => whnf)
      | (refine LoadV.mem (i := 0) (by assumption) rfl rfl ?_; conv => whnf)
      | (refine LoadV.mem (i := 1) (by assumption) rfl rfl ?_; conv => whnf)
      | (refine LoadV.mem (i := 2) (by assumption) rfl rfl ?_; conv => whnf)
      | ((with_reducible refine Tst.beqT ?_))
      | ((with_reducible refine Tst.beqF ?_))
      | (refine Tst.yes rfl ?_; conv => whnf)
      | (refine Tst.no rfl ?_; conv => whnf)))
                refine ⟨(k + 1, zs, A', c', (s ++ (⟨#[45]⟩ : ByteArray)) ++ y), ⟨rfl, rfl, trivial⟩, ⟨by simp only; omega, ?_, ?_, fun x hx => h4 x (List.mem_cons_of_mem _ hx), hS', hc', hM⟩, by simp only; omega⟩
                · rw [h2]; simp only; rw [show 3 - (k + 1) = 2 - k by omega]
                · simp only [bsz, show (⟨#[45]⟩ : ByteArray).size = 1 from rfl]; omega
              · skip
                refine DrawV.inv (fun S w => (S 11 = false ∧ (bif S 6 then (∃ A' c', SlAt Go.Proofs.YtajgbepghniciaaGreatDoor.V.encS 1 w0 A' zs ∧ zs.length ≤ c' ∧ Mem w0 w (L.set i (rb, rdC A' zs.length c' (tagC x s a2 a3 V E a6)))) else Mem w0 w (L.set i (rb, rdC B (zs.length + 1) d (tagC x s a2 a3 V E a6))))) ∨
                    (S 11 = true ∧ S 4 = true ∧ S 6 = true ∧ ∃ A' c', SlAt Go.Proofs.YtajgbepghniciaaGreatDoor.V.encS 1 w0 A' zs ∧ zs.length ≤ c' ∧ Mem w0 w (L.set i (rb, rdC A' zs.length c' (tagC x (s ++ y) a2 a3 V E a6))))) rfl (by kernel_rfl) (.inl ⟨rfl, hm5.drew⟩) ?_
                (conv => whnf)
                (apply StepI.of; (· intro S wd hk hp hI; (conv => whnf); (first | exact ⟨rfl, hI⟩ | ((repeat' (first | (refine Obl.mk ⟨by omega, by omega⟩ ?_; conv => whnf) | (refine Obl.mk ⟨by omega, by omega, ⟨by omega, by omega⟩⟩ ?_; conv => whnf) | ((with_reducible refine Tst.tt ?_); conv => whnf) | ((with_reducible refine Tst.ff ?_); conv => whnf) | ((with_reducible refine Tst.dec (fun _ => ?_) (fun _ => ?_)) <;> first | (exfalso; omega) | (conv => whnf)) | ((with_reducible refine Tst.not ?_)) | (refine Wit.conv ⟨by omega, by omega⟩ ?_; conv => whnf) | ((with_reducible refine IdxV.nat (by omega) ?_); conv => whnf) | ((with_reducible refine SameW.mk rfl ?_); conv => whnf) | ((with_reducible refine Tst.beqT ?_)) | ((with_reducible refine Tst.beqF ?_)) | (refine Tst.yes rfl ?_; conv => whnf) | (refine Tst.no rfl ?_; conv => whnf))); exact ⟨rfl, hI⟩))); (conv => whnf))
                (apply StepI.of; (· intro S wd hk hp hI; (conv => whnf); (first | exact ⟨rfl, hI⟩ | ((repeat' (first | (refine Obl.mk ⟨by omega, by omega⟩ ?_; conv => whnf) | (refine Obl.mk ⟨by omega, by omega, ⟨by omega, by omega⟩⟩ ?_; conv => whnf) | ((with_reducible refine Tst.tt ?_); conv => whnf) | ((with_reducible refine Tst.ff ?_); conv => whnf) | ((with_reducible refine Tst.dec (fun _ => ?_) (fun _ => ?_)) <;> first | (exfalso; omega) | (conv => whnf)) | ((with_reducible refine Tst.not ?_)) | (refine Wit.conv ⟨by omega, by omega⟩ ?_; conv => whnf) | ((with_reducible refine IdxV.nat (by omega) ?_); conv => whnf) | ((with_reducible refine SameW.mk rfl ?_); conv => whnf) | ((with_reducible refine Tst.beqT ?_)) | ((with_reducible refine Tst.beqF ?_)) | (refine Tst.yes rfl ?_; conv => whnf) | (refine Tst.no rfl ?_; conv => whnf))); exact ⟨rfl, hI⟩))); (conv => whnf))
                (apply StepI.of; (· intro S wd hk hp hI; (conv => whnf); (first | exact ⟨rfl, hI⟩ | ((repeat' (first | (refine Obl.mk ⟨by omega, by omega⟩ ?_; conv => whnf) | (refine Obl.mk ⟨by omega, by omega, ⟨by omega, by omega⟩⟩ ?_; conv => whnf) | ((with_reducible refine Tst.tt ?_); conv => whnf) | ((with_reducible refine Tst.ff ?_); conv => whnf) | ((with_reducible refine Tst.dec (fun _ => ?_) (fun _ => ?_)) <;> first | (exfalso; omega) | (conv => whnf)) | ((with_reducible refine Tst.not ?_)) | (refine Wit.conv ⟨by omega, by omega⟩ ?_; conv => whnf) | ((with_reducible refine IdxV.nat (by omega) ?_); conv => whnf) | ((with_reducible refine SameW.mk rfl ?_); conv => whnf) | ((with_reducible refine Tst.beqT ?_)) | ((with_reducible refine Tst.beqF ?_)) | (refine Tst.yes rfl ?_; conv => whnf) | (refine Tst.no rfl ?_; conv => whnf))); exact ⟨rfl, hI⟩))); (conv => whnf))
                (apply StepI.of; (· intro S wd hk hp hI; (conv => whnf); (first | exact ⟨rfl, hI⟩ | ((repeat' (first | (refine Obl.mk ⟨by omega, by omega⟩ ?_; conv => whnf) | (refine Obl.mk ⟨by omega, by omega, ⟨by omega, by omega⟩⟩ ?_; conv => whnf) | ((with_reducible refine Tst.tt ?_); conv => whnf) | ((with_reducible refine Tst.ff ?_); conv => whnf) | ((with_reducible refine Tst.dec (fun _ => ?_) (fun _ => ?_)) <;> first | (exfalso; omega) | (conv => whnf)) | ((with_reducible refine Tst.not ?_)) | (refine Wit.conv ⟨by omega, by omega⟩ ?_; conv => whnf) | ((with_reducible refine IdxV.nat (by omega) ?_); conv => whnf) | ((with_reducible refine SameW.mk rfl ?_); conv => whnf) | ((with_reducible refine Tst.beqT ?_)) | ((with_reducible refine Tst.beqF ?_)) | (refine Tst.yes rfl ?_; conv => whnf) | (refine Tst.no rfl ?_; conv => whnf))); exact ⟨rfl, hI⟩))); (conv => whnf))
                refine StepI.of (.string s) (fun S wd hk hp hI => ?_) ?_
                · obtain ⟨h11, hI⟩ := hI.resolve_right (fun h => by have := h.2.1; rw [hk] at this; cases this)
                  (conv => whnf)
                  cases h6 : S 6
                  · rw [h6] at hI
                    refine rd_load hI (List.getElem?_set_self hil) 1 rfl rfl ?_
                    (conv => whnf)
                    exact ⟨rfl, .inl ⟨h11, by show bif S 6 then _ else _; rw [h6]; exact hI⟩⟩
                  · rw [h6] at hI
                    obtain ⟨A', c', hS', hc', hM⟩ := hI
                    refine rd_load hM (List.getElem?_set_self hil) 1 rfl rfl ?_
                    (conv => whnf)
                    exact ⟨rfl, .inl ⟨h11, by show bif S 6 then _ else _; rw [h6]; exact ⟨A', c', hS', hc', hM⟩⟩⟩
                (conv => whnf)
                (apply StepI.of; (· intro S wd hk hp hI; (conv => whnf); (first | exact ⟨rfl, hI⟩ | ((repeat' (first | (refine Obl.mk ⟨by omega, by omega⟩ ?_; conv => whnf) | (refine Obl.mk ⟨by omega, by omega, ⟨by omega, by omega⟩⟩ ?_; conv => whnf) | ((with_reducible refine Tst.tt ?_); conv => whnf) | ((with_reducible refine Tst.ff ?_); conv => whnf) | ((with_reducible refine Tst.dec (fun _ => ?_) (fun _ => ?_)) <;> first | (exfalso; omega) | (conv => whnf)) | ((with_reducible refine Tst.not ?_)) | (refine Wit.conv ⟨by omega, by omega⟩ ?_; conv => whnf) | ((with_reducible refine IdxV.nat (by omega) ?_); conv => whnf) | ((with_reducible refine SameW.mk rfl ?_); conv => whnf) | ((with_reducible refine Tst.beqT ?_)) | ((with_reducible refine Tst.beqF ?_)) | (refine Tst.yes rfl ?_; conv => whnf) | (refine Tst.no rfl ?_; conv => whnf))); exact ⟨rfl, hI⟩))); (conv => whnf))
                refine StepI.of (.string y) (fun S wd hk hp hI => ?_) ?_
                · obtain ⟨h11, hI⟩ := hI.resolve_right (fun h => by have := h.2.2.1; rw [hk] at this; cases this)
                  have h6 : S 6 = false := hk
                  rw [h6] at hI
                  (conv => whnf)
                  refine CallV.of (next2_any rb i y zs B d _ w0 wd _ hI (List.getElem?_set_self hil) hS4 hc4) ?_
                  rintro v w6 ⟨rfl, A', c', hS', hc', hM'⟩
                  rw [List.set_set] at hM'
                  (conv => whnf)
                  exact ⟨rfl, .inl ⟨h11, A', c', hS', hc', hM'⟩⟩
                (conv => whnf)
                refine StepI.of (.string (s ++ y)) (fun S wd hk hp hI => ?_) ?_
                · (conv => whnf)
                  refine ⟨by show s.size + y.size ≤ _; omega, ?_⟩
                  (conv => whnf)
                  exact ⟨rfl, hI⟩
                (conv => whnf)
                (apply StepI.of; (· intro S wd hk hp hI; (conv => whnf); (first | exact ⟨rfl, hI⟩ | ((repeat' (first | (refine Obl.mk ⟨by omega, by omega⟩ ?_; conv => whnf) | (refine Obl.mk ⟨by omega, by omega, ⟨by omega, by omega⟩⟩ ?_; conv => whnf) | ((with_reducible refine Tst.tt ?_); conv => whnf) | ((with_reducible refine Tst.ff ?_); conv => whnf) | ((with_reducible refine Tst.dec (fun _ => ?_) (fun _ => ?_)) <;> first | (exfalso; omega) | (conv => whnf)) | ((with_reducible refine Tst.not ?_)) | (refine Wit.conv ⟨by omega, by omega⟩ ?_; conv => whnf) | ((with_reducible refine IdxV.nat (by omega) ?_); conv => whnf) | ((with_reducible refine SameW.mk rfl ?_); conv => whnf) | ((with_reducible refine Tst.beqT ?_)) | ((with_reducible refine Tst.beqF ?_)) | (refine Tst.yes rfl ?_; conv => whnf) | (refine Tst.no rfl ?_; conv => whnf))); exact ⟨rfl, hI⟩))); (conv => whnf))
                (apply StepI.of; (· intro S wd hk hp hI; (conv => whnf); (first | exact ⟨rfl, hI⟩ | ((repeat' (first | (refine Obl.mk ⟨by omega, by omega⟩ ?_; conv => whnf) | (refine Obl.mk ⟨by omega, by omega, ⟨by omega, by omega⟩⟩ ?_; conv => whnf) | ((with_reducible refine Tst.tt ?_); conv => whnf) | ((with_reducible refine Tst.ff ?_); conv => whnf) | ((with_reducible refine Tst.dec (fun _ => ?_) (fun _ => ?_)) <;> first | (exfalso; omega) | (conv => whnf)) | ((with_reducible refine Tst.not ?_)) | (refine Wit.conv ⟨by omega, by omega⟩ ?_; conv => whnf) | ((with_reducible refine IdxV.nat (by omega) ?_); conv => whnf) | ((with_reducible refine SameW.mk rfl ?_); conv => whnf) | ((with_reducible refine Tst.beqT ?_)) | ((with_reducible refine Tst.beqF ?_)) | (refine Tst.yes rfl ?_; conv => whnf) | (refine Tst.no rfl ?_; conv => whnf))); exact ⟨rfl, hI⟩))); (conv => whnf))
                (apply StepI.of; (· intro S wd hk hp hI; (conv => whnf); (first | exact ⟨rfl, hI⟩ | ((repeat' (first | (refine Obl.mk ⟨by omega, by omega⟩ ?_; conv => whnf) | (refine Obl.mk ⟨by omega, by omega, ⟨by omega, by omega⟩⟩ ?_; conv => whnf) | ((with_reducible refine Tst.tt ?_); conv => whnf) | ((with_reducible refine Tst.ff ?_); conv => whnf) | ((with_reducible refine Tst.dec (fun _ => ?_) (fun _ => ?_)) <;> first | (exfalso; omega) | (conv => whnf)) | ((with_reducible refine Tst.not ?_)) | (refine Wit.conv ⟨by omega, by omega⟩ ?_; conv => whnf) | ((with_reducible refine IdxV.nat (by omega) ?_); conv => whnf) | ((with_reducible refine SameW.mk rfl ?_); conv => whnf) | ((with_reducible refine Tst.beqT ?_)) | ((with_reducible refine Tst.beqF ?_)) | (refine Tst.yes rfl ?_; conv => whnf) | (refine Tst.no rfl ?_; conv => whnf))); exact ⟨rfl, hI⟩))); (conv => whnf))
                refine StepI.of undef (fun S wd hk hp hI => ?_) ?_
                · obtain ⟨h11, hI⟩ := hI.resolve_right (fun h => by have := h.1; rw [hk] at this; cases this)
                  have h4 := hp 4 (by decide)
                  have h6 := hp 6 (by decide)
                  rw [h6] at hI
                  obtain ⟨A', c', hS', hc', hM⟩ := hI
                  (conv => whnf)
                  refine rd_store hM (List.getElem?_set_self hil) 1 rfl (show 1 < 7 by decide) rfl ?_
                  intro w6 hM'
                  rw [List.set_set] at hM'
                  (conv => whnf)
                  exact ⟨rfl, .inr ⟨rfl, h4, h6, A', c', hS', hc', hM'⟩⟩
                (conv => whnf)
                intro w6 hI
                obtain ⟨_, _, _, A', c', hS', hc', hM⟩ := hI.resolve_left (fun h => by have := h.1; cases this)
                (conv => whnf)
                (repeat' (first
      | (refine Obl.mk ⟨by omega, by omega⟩ ?_; conv => whnf)
      | (refine Obl.mk ⟨by omega, by omega, ⟨by omega, by omega⟩⟩ ?_; conv => whnf)
      | ((with_reducible refine Tst.tt ?_); conv => whnf)
      | ((with_reducible refine Tst.ff ?_); conv => whnf)
      | ((with_reducible refine Tst.dec (fun _ => ?_) (fun _ => ?_)) <;> first | (exfalso; omega) | (conv => whnf))
      | ((with_reducible refine Tst.not ?_))
      | (refine Wit.conv ⟨by omega, by omega⟩ ?_; conv => whnf)
      | ((with_reducible refine IdxV.nat (by omega) ?_); conv => whnf)
      | ((with_reducible refine SameW.mk rfl ?_); conv => whnf)
      | (refine LoadV.mem (i := 0) (by assumption) rfl rfl ?_; conv => whnf)
      | (refine LoadV.mem (i := 1) (by assumption) rfl rfl ?_; conv => whnf)
      | (refine LoadV.mem (i := 2) (by assumption) rfl rfl ?_; conv => whnf)
      | ((with_reducible refine Tst.beqT ?_))
      | ((with_reducible refine Tst.beqF ?_))
      | (refine Tst.yes rfl ?_; conv => whnf)
      | (refine Tst.no rfl ?_; conv => whnf)))
                refine ⟨(k + 1, zs, A', c', s ++ y), ⟨rfl, rfl, trivial⟩, ⟨by simp only; omega, ?_, ?_, fun x hx => h4 x (List.mem_cons_of_mem _ hx), hS', hc', hM⟩, by simp only; omega⟩
                · rw [h2]; simp only; rw [show 3 - (k + 1) = 2 - k by omega]
                · simp only [bsz]; omega
        · refine .inr ⟨ys, ?_, rfl, B, d, x, s, hS4, hc4, hm4⟩
          rw [h2, show 3 - k = 0 by omega]; rfl
end Go.Proofs.YtajgbepghniciaaGreatDoor
namespace Go.Proofs.YtajgbepghniciaaGreatDoor
open Go.RowKit
namespace V
structure RowB (e : TypeId) (xs : List Value) (L : List (Nat × Obj)) (v : Value) : Prop where
  h : (v = .slice none 0 0 ∧ xs = []) ∨ ∃ g cap cur, v = .slice (some ⟨g, 0, none⟩) xs.length cap ∧ (g, Obj.cells cur e (0, 0)) ∈ L ∧ xs.length ≤ cap ∧ cap ≤ maxLen ∧ cur.size = cap ∧ cur.toList.take xs.length = xs
section
variable {w0 w : World} {L L' : List (Nat × Obj)} {e : TypeId} {xs : List Value} {v : Value}
theorem RowB.nil (e : TypeId) (L : List (Nat × Obj)) : RowB e [] L (.slice none 0 0) := ⟨.inl ⟨rfl, rfl⟩⟩
theorem RowB.owns (h : RowB e xs L v) (hm : Mem w0 w L) : w.ownsRow w0.heap.size e 1 v xs.length xs := by
  refine ⟨(Nat.mul_one _).symm, ?_⟩
  rcases h.h with ⟨rfl, rfl⟩ | ⟨g, cap, cur, rfl, hg, h1, h2, h3, h4⟩
  · exact .inl ⟨rfl, rfl⟩
  · exact .inr ⟨g, cap, cur, rfl, (hm.own _ hg).1, hm.get hg, h1, h2, by rw [h3, Nat.mul_one], by rw [Nat.mul_one]; exact h4⟩
theorem RowB.keep (h : RowB e xs L v) (hk : ∀ y ∈ L, v.ownBlock = some y.1 → y ∈ L') : RowB e xs L' v := by
  refine ⟨?_⟩
  rcases h.h with h | ⟨g, cap, cur, rfl, hg, h1⟩
  · exact .inl h
  · exact .inr ⟨g, cap, cur, rfl, hk _ hg rfl, h1⟩
theorem RowB.in_ (h : RowB e xs L v) {g : Nat} (hg : v.ownBlock = some g) : ∃ o, (g, o) ∈ L := by
  rcases h.h with ⟨rfl, _⟩ | ⟨g', cap, cur, rfl, h', _⟩
  · cases hg
  · cases hg; exact ⟨_, h'⟩
theorem RowB.slice (h : RowB e xs L v) : ∃ A c, v = .slice A xs.length c := by
  rcases h.h with ⟨rfl, rfl⟩ | ⟨g, cap, cur, rfl, _⟩
  · exact ⟨_, _, rfl⟩
  · exact ⟨_, _, rfl⟩
theorem RowB.sl {l : List ByteArray} {A : Option Addr} {n c : Nat} (h : RowB e (l.map Value.string) L (.slice A n c)) (hm : Mem w0 w L) : SlAt Go.Proofs.YtajgbepghniciaaGreatDoor.V.encS 1 w A l := by
  refine ⟨fun hne => ?_⟩
  rcases h.h with ⟨_, h0⟩ | ⟨g, cap, cur, hv, hg, h1, _, _, h4⟩
  · simp at h0; exact absurd h0 hne
  · cases hv
    refine ⟨g, 0, rfl, fun j x hx k u hu => ?_⟩
    cases k with
    | succ k => simp [Go.Proofs.YtajgbepghniciaaGreatDoor.V.encS] at hu
    | zero =>
      simp only [Go.Proofs.YtajgbepghniciaaGreatDoor.V.encS, List.getElem?_cons_zero, Option.some.injEq] at hu
      subst hu
      have hj : (cur.toList.take (l.map Value.string).length)[j]? = some (.string x) := by rw [h4, List.getElem?_map, hx]; rfl
      rw [List.getElem?_take] at hj
      split at hj
      · rw [cell_heap (hm.get hg)]
        simpa using hj
      · cases hj
end
/-- one cell more -/
theorem AppV.blk {P : Program} {w0 w : World} {L : List (Nat × Obj)} {e t ty : TypeId} {i : TypeInfo} {z x : Value} {A : Option Addr} {n c nb : Nat} {xs : List Value} {K : Value → World → Prop} (ht : P.underlying t = some (.slice e)) (hi : P.info? e = some i) (hz : i.zero = some z)
    (hsize : i.size = 1) (hzs : z.cells.size = 1) (hby : i.bytes ≤ 16) (hm : Mem w0 w L) (hr : RowB e xs L (.slice A n c)) (hn : n = xs.length) (hx : x.oneCell' = true) (hb : w.cell? ⟨nb, 0, none⟩ = some x) (hlen : n + 1 ≤ 8000000000000)
    (hk : ∀ A' c' w' L', Mem w0 w' L' → RowB e (xs ++ [x]) L' (.slice A' (n + 1) c') → (∀ y ∈ L, Value.ownBlock (.slice A n c) ≠ some y.1 → y ∈ L') →
      (∀ g, Value.ownBlock (.slice A' (n + 1) c') = some g → Value.ownBlock (.slice A n c) = some g ∨ ∀ y ∈ L, y.1 ≠ g) → K (.slice A' (n + 1) c') w') : AppV P #[t, t] ty (.slice A n c) (.slice (some ⟨nb, 0, none⟩) 1 1) w K := by
  subst hn
  refine AppV.own (news := [x]) ht hi hz hsize hzs (by decide) (hr.owns hm) hm.ext.size rfl (fun _ => ⟨nb, 0, rfl, fun k u hu => ?_⟩) (fun u hu => by simp at hu; rw [hu]; exact hx) ?_ (by omega) ?_
  · cases k with
    | zero => simp at hu; subst hu; exact hb
    | succ k => simp at hu
  · exact Nat.le_trans (Nat.mul_le_mul hlen hby) (by decide)
  · intro v' w' ho hg hor
    rcases ho.2 with ⟨_, h0⟩ | ⟨g, cap, cur, rfl, hg0, hgw, h1, h2, h3, h4⟩
    · omega
    · have hltL : ∀ y ∈ L, y.1 < w.heap.size := fun y hy => hm.lt (b := y.1) (o := y.2) hy
      have hne : ∀ y ∈ L, Value.ownBlock (.slice A xs.length c) ≠ some y.1 → y.1 ≠ g := fun y hy hv e => by
        rcases hor with hor | hor
        · exact hv (by rw [← hor, e]; rfl)
        · have := hltL y hy
          simp only [Value.ownBlock, Option.some.injEq] at hor
          omega
      refine hk _ cap w' ((g, .cells cur e (0, 0)) :: L.filter fun y => decide (Value.ownBlock (.slice A xs.length c) ≠ some y.1)) ⟨?_, ?_, ?_⟩ ⟨.inr ⟨g, cap, cur, by simp, List.mem_cons_self .., by simpa using h1, h2, by rw [h3, Nat.mul_one], by rw [Nat.mul_one] at h4; simpa using h4⟩⟩ ?_ ?_
      · exact Below.grown hm.ext hg hm.ext.size (fun k hk => ((hr.owns hm).lt k hk).1)
      · intro y hy
        rcases List.mem_cons.1 hy with rfl | hy
        · exact ⟨hg0, hgw⟩
        · obtain ⟨hy, hv⟩ := List.mem_filter.1 hy
          have hv := of_decide_eq_true hv
          refine ⟨(hm.own y hy).1, ?_⟩
          rw [hg.block y.1 (hltL y hy) (fun e => hv e.symm)]
          exact (hm.own y hy).2
      · simp only [List.map_cons, List.nodup_cons]
        refine ⟨fun hmem => ?_, (List.filter_sublist.map _).nodup hm.nodup⟩
        obtain ⟨y, hy, e⟩ := List.mem_map.1 hmem
        obtain ⟨hy, hv⟩ := List.mem_filter.1 hy
        exact hne y hy (of_decide_eq_true hv) e
      · intro y hy hv
        exact List.mem_cons_of_mem _ (List.mem_filter.2 ⟨hy, decide_eq_true hv⟩)
      · intro g' hg'
        cases hg'
        rcases hor with hor | hor
        · exact .inl hor.symm
        · right
          intro y hy e
          have := hltL y hy
          have hor : g = w.heap.size := Option.some.inj hor
          have e : y.1 = g := e
          omega
/-- several rows, apart from one another and from the blocks O -/
structure RowsP (e : TypeId) (O : List Nat) (L : List (Nat × Obj)) (R : List (List Value × Value)) : Prop where
  row : ∀ (k : Nat) p, R[k]? = some p → RowB e p.1 L p.2
  out : ∀ (k : Nat) p g, R[k]? = some p → p.2.ownBlock = some g → g ∉ O
  ap : ∀ (k k' : Nat) p p' g, R[k]? = some p → R[k']? = some p' → k ≠ k' → p.2.ownBlock = some g → p'.2.ownBlock ≠ some g
theorem RowsP.keep {e : TypeId} {O : List Nat} {L L' : List (Nat × Obj)} {R : List (List Value × Value)} (h : RowsP e O L R) (hk : ∀ y ∈ L, y.1 ∉ O → y ∈ L') : RowsP e O L' R :=
  ⟨fun k p hp => (h.row k p hp).keep fun y hy hv => hk y hy (h.out k p y.1 hp hv), h.out, h.ap⟩
theorem RowsP.app {P : Program} {w0 w : World} {O : List Nat} {L : List (Nat × Obj)} {R : List (List Value × Value)} {e t ty : TypeId} {i : TypeInfo} {z x : Value} {A : Option Addr} {n c nb : Nat} {xs : List Value} {K : Value → World → Prop} (h : RowsP e O L R) (k : Nat) (hk : R[k]? = some (xs, .slice A n c)) (ht : P.underlying t = some (.slice e)) (hi : P.info? e = some i) (hz : i.zero = some z)
    (hsize : i.size = 1) (hzs : z.cells.size = 1) (hby : i.bytes ≤ 16) (hm : Mem w0 w L) (hO : ∀ g ∈ O, ∃ o, (g, o) ∈ L) (hn : n = xs.length) (hx : x.oneCell' = true) (hb : w.cell? ⟨nb, 0, none⟩ = some x) (hlen : n + 1 ≤ 8000000000000)
    (hK : ∀ A' c' w' L', Mem w0 w' L' → RowsP e O L' (R.set k (xs ++ [x], .slice A' (n + 1) c')) → (∀ y ∈ L, y.1 ∈ O → y ∈ L') → K (.slice A' (n + 1) c') w') : AppV P #[t, t] ty (.slice A n c) (.slice (some ⟨nb, 0, none⟩) 1 1) w K := by
  refine AppV.blk ht hi hz hsize hzs hby hm (h.row k _ hk) hn hx hb hlen fun A' c' w' L' hm' hr' hkeep hown => hK A' c' w' L' hm' ?_ ?_
  · have hkl : k < R.length := (List.getElem?_eq_some_iff.1 hk).1
    have other : ∀ (j : Nat) p, (R.set k (xs ++ [x], .slice A' (n + 1) c'))[j]? = some p → (j = k ∧ p = (xs ++ [x], .slice A' (n + 1) c')) ∨ (j ≠ k ∧ R[j]? = some p) := fun j p hp => by
      rw [List.getElem?_set] at hp
      split at hp
      · rename_i ejk
        exact .inl ⟨ejk.symm, by simpa [hkl] using hp.symm⟩
      · rename_i hne
        exact .inr ⟨fun ejk => hne ejk.symm, hp⟩
    have fresh : ∀ (j : Nat) p g, j ≠ k → R[j]? = some p → p.2.ownBlock = some g → Value.ownBlock (.slice A' (n + 1) c') ≠ some g := fun j p g hj hp hg hg' => by
      rcases hown g hg' with ho | ho
      · exact h.ap j k p _ g hp hk hj hg ho
      · obtain ⟨o, hin⟩ := (h.row j p hp).in_ hg
        exact ho _ hin rfl
    refine ⟨fun j p hp => ?_, fun j p g hp hg => ?_, fun j j' p p' g hp hp' hne hg => ?_⟩
    · rcases other j p hp with ⟨_, rfl⟩ | ⟨hj, hp⟩
      · exact hr'
      · exact (h.row j p hp).keep fun y hy hv => hkeep y hy (h.ap j k p _ y.1 hp hk hj hv)
    · rcases other j p hp with ⟨_, rfl⟩ | ⟨hj, hp⟩
      · rcases hown g hg with ho | ho
        · exact h.out k _ g hk ho
        · intro hgO
          obtain ⟨o, hin⟩ := hO g hgO
          exact ho _ hin rfl
      · exact h.out j p g hp hg
    · rcases other j p hp with ⟨ej, rfl⟩ | ⟨hj, hp⟩ <;> rcases other j' p' hp' with ⟨ej', rfl⟩ | ⟨hj', hp'⟩
      · exact absurd (ej.trans ej'.symm) hne
      · intro hg'
        exact fresh j' p' g hj' hp' hg' hg
      · exact fresh j p g hj hp hg
      · exact h.ap j j' p p' g hp hp' hne hg
  · intro y hy hyO
    exact hkeep y hy fun hv => h.out k _ y.1 hk hv hyO
end V
end Go.Proofs.YtajgbepghniciaaGreatDoor
namespace Go.Proofs.YtajgbepghniciaaGreatDoor
open Go.RowKit V
set_option maxRecDepth 100000

theorem set_mem {L : List (Nat × Obj)} {i rb : Nat} {o o' : Obj} (hi : L[i]? = some (rb, o)) : (rb, o') ∈ L.set i (rb, o') ∧ ∀ y ∈ L, y.1 ≠ rb → y ∈ L.set i (rb, o') := by
  have hil : i < L.length := (List.getElem?_eq_some_iff.1 hi).1
  refine ⟨List.mem_of_getElem? (List.getElem?_set_self hil), fun y hy hne => ?_⟩
  obtain ⟨j, hj⟩ := List.mem_iff_getElem?.1 hy
  refine List.mem_of_getElem? (i := j) ?_
  rw [List.getElem?_set_ne (fun e => hne ?_), hj]
  subst e
  rw [hi] at hj
  cases hj; rfl
section
variable {w0 w : World} {L : List (Nat × Obj)} {rb n c off : Nat} {A : Option Addr} {t : List Value} {v : Value}
/-- what a step at the reader's block leaves -/
structure RdM (w0 w' : World) (L : List (Nat × Obj)) (rb : Nat) (o' : Obj) (L' : List (Nat × Obj)) : Prop where
  mem : Mem w0 w' L'
  rd : (rb, o') ∈ L'
  keep : ∀ y ∈ L, y.1 ≠ rb → y ∈ L'
theorem rdm_store {K : World → Prop} (hm : Mem w0 w L) (hi : (rb, rdC A n c t) ∈ L) (k : Nat) (ho : off = 1 + k) (hk : k < t.length) (h1 : oneCell v = true) (hw : ∀ w' L', RdM w0 w' L rb (rdC A n c (t.set k v)) L' → K w') : StoreV w rb off v K := by
  obtain ⟨i, hi⟩ := List.mem_iff_getElem?.1 hi
  exact rd_store hm hi k ho hk h1 fun w' h => hw w' _ ⟨h, (set_mem hi).1, (set_mem hi).2⟩
theorem rdm_load {K : Value → Prop} (hm : Mem w0 w L) (hi : (rb, rdC A n c t) ∈ L) (k : Nat) (ho : off = 1 + k) (hv : t[k]? = some v) (hk : K v) : LoadV w rb off K := by
  obtain ⟨i, hi⟩ := List.mem_iff_getElem?.1 hi
  exact rd_load hm hi k ho hv hk
theorem rdm_next {x : ByteArray} {xs : List ByteArray} (hm : Mem w0 w L) (hi : (rb, rdC A (xs.length + 1) c t) ∈ L) (hS : SlAt Go.Proofs.YtajgbepghniciaaGreatDoor.V.encS 1 w0 A (x :: xs)) (hc : xs.length + 1 ≤ c) :
    Gv Tryz.prog 215 [.pointer (some ⟨rb, 0, none⟩)] w fun v w' => v = .string x ∧ ∃ A' c' L', SlAt Go.Proofs.YtajgbepghniciaaGreatDoor.V.encS 1 w0 A' xs ∧ xs.length ≤ c' ∧ RdM w0 w' L rb (rdC A' xs.length c' t) L' := by
  obtain ⟨i, hi⟩ := List.mem_iff_getElem?.1 hi
  refine (next2_any rb i x xs A c t w0 w L hm hi hS hc).mono ?_
  rintro v w' ⟨rfl, A', c', h1, h2, h3⟩
  exact ⟨rfl, A', c', _, h1, h2, ⟨h3, (set_mem hi).1, (set_mem hi).2⟩⟩
theorem rdm_tail {rest : List ByteArray} {least : Nat} (hm : Mem w0 w L) (hi : (rb, rdC A rest.length c t) ∈ L) (hS : SlAt Go.Proofs.YtajgbepghniciaaGreatDoor.V.encS 1 w0 A rest) (hc : rest.length ≤ c) (hx : ∀ x ∈ rest, x.size ≤ 1000000) (hn : rest.length ≤ 1000000) :
    Gv Tryz.prog 216 [.pointer (some ⟨rb, 0, none⟩), .int .i64 least] w fun v w' => ∃ pre rest' s, TailP (fun x => madeB x least 8 false) rest pre rest' s ∧ seeB (fun x => madeB x least 8 false) rest' = false ∧
      v = .tuple #[.string s, .bool (decide (pre ≠ []))] ∧ ∃ A' c' L', SlAt Go.Proofs.YtajgbepghniciaaGreatDoor.V.encS 1 w0 A' rest' ∧ rest'.length ≤ c' ∧ RdM w0 w' L rb (rdC A' rest'.length c' t) L' := by
  obtain ⟨i, hi⟩ := List.mem_iff_getElem?.1 hi
  refine (tail_any rb i least rest A c t w0 w L hm hi hS hc hx hn).mono ?_
  rintro v w' ⟨pre, rest', s, h1, h2, rfl, A', c', h3, h4, h5⟩
  exact ⟨pre, rest', s, h1, h2, rfl, A', c', _, h3, h4, ⟨h5, (set_mem hi).1, (set_mem hi).2⟩⟩
end

def scriptR : List ByteArray → List ByteArray
  | [] => []
  | x :: xs => if madeB x 4 4 true = true then xs else x :: xs
def regionR : List ByteArray → List ByteArray
  | [] => []
  | x :: xs => if regB x = true then xs else x :: xs
open Classical in
noncomputable def varsR : List ByteArray → List ByteArray → Option (List ByteArray × List ByteArray)
  | seen, [] => some (seen, [])
  | seen, x :: xs => if varB x = true then (if lowS x ∈ seen then none else varsR (seen ++ [lowS x]) xs) else some (seen, x :: xs)
def extQ (x : ByteArray) : Bool := madeB x 2 8 false
def extS (x : ByteArray) : Bool := madeB x 1 1 false && !privB x
open Classical in
noncomputable def extN : Nat → List ByteArray → List ByteArray → Option (List ByteArray)
  | _, _, [] => some []
  | 0, _, rest => some rest
  | k + 1, seen, x :: xs => if extS x = true then (if xs.takeWhile extQ = [] ∨ lowS x ∈ seen then none else extN k (seen ++ [lowS x]) (xs.dropWhile extQ)) else some (x :: xs)
noncomputable def restR (rest : List ByteArray) : Option (List ByteArray) := (varsR [] (regionR (scriptR rest))).bind fun r => extN r.2.length r.1 r.2
theorem TailP.take {q : ByteArray → Bool} {rest pre rest' : List ByteArray} {s : ByteArray} (h : TailP q rest pre rest' s) (h2 : seeB q rest' = false) : rest.takeWhile q = pre ∧ rest.dropWhile q = rest' := by
  have ha := List.all_eq_true.1 h.all
  rw [h.eq, List.takeWhile_append_of_pos ha, List.dropWhile_append_of_pos ha]
  cases rest' with
  | nil => simp
  | cons y ys =>
    have : q y = false := h2
    simp [this]
theorem rest1_any (x : ByteArray) (hs : x.size ≤ 140737488355328) (w : World) : Gv Tryz.prog 260 [.string x] w fun v w' => v = .bool (madeB x 4 4 true) ∧ Ext w w' := by
  have h1 := made_any x 4 4 true hs w
  refine gv (by kernel_rfl) Tryz.func260 rfl Tryz.ntmps260 rfl ?_; conv => whnf
  refine CallV.of (h1) ?_
  rintro v w' ⟨rfl, he⟩
  (conv => whnf)
  exact ⟨rfl, he⟩
theorem rest2_any (x : ByteArray) (hs : x.size ≤ 140737488355328) (w : World) : Gv Tryz.prog 264 [.string x] w fun v w' => v = .bool (extS x) ∧ Ext w w' := by
  have h1 := made_any x 1 1 false hs w
  refine gv (by kernel_rfl) Tryz.func264 rfl Tryz.ntmps264 rfl ?_; conv => whnf
  refine CallV.of (h1) ?_
  rintro v w1 ⟨rfl, he⟩
  cases hm : madeB x 1 1 false
  · (conv => whnf)
    (repeat' (first
      | (refine Obl.mk ⟨by omega, by omega⟩ ?_; conv => whnf)
      | (refine Obl.mk ⟨by omega, by omega, ⟨by omega, by omega⟩⟩ ?_; conv => whnf)
      | ((with_reducible refine Tst.tt ?_); conv => whnf)
      | ((with_reducible refine Tst.ff ?_); conv => whnf)
      | ((with_reducible refine Tst.dec (fun _ => ?_) (fun _ => ?_)) <;> first | (exfalso; omega) | (conv => whnf))
      | ((with_reducible refine Tst.not ?_))
      | (refine Wit.conv ⟨by omega, by omega⟩ ?_; conv => whnf)
      | ((with_reducible refine IdxV.nat (by omega) ?_); conv => whnf)
      | ((with_reducible refine SameW.mk rfl ?_); conv => whnf)
      | (refine LoadV.mem (i := 0) (by assumption) rfl rfl ?_; conv => whnf)
      | (refine LoadV.mem (i := 1) (by assumption) rfl rfl ?_; conv => whnf)
      | (refine LoadV.mem (i := 2) (by assumption) rfl rfl ?_; conv => whnf)
      | ((with_reducible refine Tst.beqT ?_))
      | ((with_reducible refine Tst.beqF ?_))
      | (refine Tst.yes rfl ?_; conv => whnf)
      | (refine Tst.no rfl ?_; conv => whnf)))
    exact ⟨by rw [extS, hm]; rfl, he⟩
  · (conv => whnf)
    (repeat' (first
      | (refine Obl.mk ⟨by omega, by omega⟩ ?_; conv => whnf)
      | (refine Obl.mk ⟨by omega, by omega, ⟨by omega, by omega⟩⟩ ?_; conv => whnf)
      | ((with_reducible refine Tst.tt ?_); conv => whnf)
      | ((with_reducible refine Tst.ff ?_); conv => whnf)
      | ((with_reducible refine Tst.dec (fun _ => ?_) (fun _ => ?_)) <;> first | (exfalso; omega) | (conv => whnf))
      | ((with_reducible refine Tst.not ?_))
      | (refine Wit.conv ⟨by omega, by omega⟩ ?_; conv => whnf)
      | ((with_reducible refine IdxV.nat (by omega) ?_); conv => whnf)
      | ((with_reducible refine SameW.mk rfl ?_); conv => whnf)
      | (refine LoadV.mem (i := 0) (by assumption) rfl rfl ?_; conv => whnf)
      | (refine LoadV.mem (i := 1) (by assumption) rfl rfl ?_; conv => whnf)
      | (refine LoadV.mem (i := 2) (by assumption) rfl rfl ?_; conv => whnf)
      | ((with_reducible refine Tst.beqT ?_))
      | ((with_reducible refine Tst.beqF ?_))
      | (refine Tst.yes rfl ?_; conv => whnf)
      | (refine Tst.no rfl ?_; conv => whnf)))
    refine CallV.of (private_any x w1) ?_
    rintro v w2 ⟨rfl, rfl⟩
    (conv => whnf)
    (repeat' (first
      | (refine Obl.mk ⟨by omega, by omega⟩ ?_; conv => whnf)
      | (refine Obl.mk ⟨by omega, by omega, ⟨by omega, by omega⟩⟩ ?_; conv => whnf)
      | ((with_reducible refine Tst.tt ?_); conv => whnf)
      | ((with_reducible refine Tst.ff ?_); conv => whnf)
      | ((with_reducible refine Tst.dec (fun _ => ?_) (fun _ => ?_)) <;> first | (exfalso; omega) | (conv => whnf))
      | ((with_reducible refine Tst.not ?_))
      | (refine Wit.conv ⟨by omega, by omega⟩ ?_; conv => whnf)
      | ((with_reducible refine IdxV.nat (by omega) ?_); conv => whnf)
      | ((with_reducible refine SameW.mk rfl ?_); conv => whnf)
      | (refine LoadV.mem (i := 0) (by assumption) rfl rfl ?_; conv => whnf)
      | (refine LoadV.mem (i := 1) (by assumption) rfl rfl ?_; conv => whnf)
      | (refine LoadV.mem (i := 2) (by assumption) rfl rfl ?_; conv => whnf)
      | ((with_reducible refine Tst.beqT ?_))
      | ((with_reducible refine Tst.beqF ?_))
      | (refine Tst.yes rfl ?_; conv => whnf)
      | (refine Tst.no rfl ?_; conv => whnf)))
    exact ⟨by rw [extS, hm]; rfl, he⟩
theorem containsS_any (l : List ByteArray) (A : Option Addr) (c : Nat) (x : ByteArray) (w : World) (hS : SlAt Go.Proofs.YtajgbepghniciaaGreatDoor.V.encS 1 w A l) (hl : l.length ≤ 9223372036854775807) :
    Gv Tryz.prog 263 [.slice A l.length c, .string x] w fun v w' => (∃ b, v = .bool b ∧ (b = true ↔ x ∈ l)) ∧ w' = w := by
  cases l with
  | nil =>
    refine (gv_of (by kernel_rfl) (Tryz.slices_Contains_string_empty A c x w)).mono ?_
    rintro v w' ⟨rfl, rfl⟩
    exact ⟨⟨false, rfl, by simp⟩, rfl⟩
  | cons y ys =>
    obtain ⟨b, off, rfl, h⟩ := hS.at_ (by simp)
    refine (gv_of (by kernel_rfl) (Tryz.slices_Contains_string b off (y :: ys).length c (y :: ys) x w (Nat.le_refl _) hl (fun j hj => ?_))).mono ?_
    · have := h j _ (List.getElem?_eq_getElem hj) 0 (.string (y :: ys)[j]) rfl
      rw [List.getD_eq_getElem?_getD, List.getElem?_eq_getElem hj, Option.getD_some]
      simpa using this
    · rintro v w' ⟨rfl, rfl⟩
      exact ⟨⟨_, rfl, by rw [Go.Lib.containsS_iff, List.take_length]⟩, rfl⟩
end Go.Proofs.YtajgbepghniciaaGreatDoor
namespace Go.Proofs.YtajgbepghniciaaGreatDoor
open Go.RowKit V
set_option maxRecDepth 100000

/-- the reader's state between two steps -/
structure RS (w0 w : World) (O : List Nat) (rb : Nat) (rest : List ByteArray) (A : Option Addr) (c : Nat) (V E : Value) (L : List (Nat × Obj)) (R : List (List Value × Value)) : Prop where
  mem : Mem w0 w L
  rd : ∃ a0 a1 a2 a3 a6, (rb, rdC A rest.length c (tagC a0 a1 a2 a3 V E a6)) ∈ L
  rows : RowsP 9 O L R
  sl : SlAt Go.Proofs.YtajgbepghniciaaGreatDoor.V.encS 1 w0 A rest
  hc : rest.length ≤ c
  hO : rb ∈ O
  all : ∀ g ∈ O, ∃ o, (g, o) ∈ L
  small : ∀ x ∈ rest, x.size ≤ 1000000
  vs : (∃ A n c, V = .slice A n c) ∧ ∃ A n c, E = .slice A n c
section
variable {w0 w w' : World} {O : List Nat} {rb : Nat} {rest xs : List ByteArray} {x : ByteArray} {A A' : Option Addr} {c c' : Nat} {V E V' E' : Value} {L L' : List (Nat × Obj)} {R : List (List Value × Value)} {o' : Obj}
theorem RS.call (h : RS w0 w O rb rest A c V E L R) (he : Ext w w') : RS w0 w' O rb rest A c V E L R := { h with mem := h.mem.call he }
theorem RS.step (h : RS w0 w O rb rest A c V E L R) (hr : RdM w0 w' L rb o' L') (ho : ∃ a0 a1 a2 a3 a6, o' = rdC A' xs.length c' (tagC a0 a1 a2 a3 V' E' a6)) (hS : SlAt Go.Proofs.YtajgbepghniciaaGreatDoor.V.encS 1 w0 A' xs) (hc : xs.length ≤ c') (hsub : ∀ y ∈ xs, y ∈ rest) (hvs : (∃ A n c, V' = .slice A n c) ∧ ∃ A n c, E' = .slice A n c) : RS w0 w' O rb xs A' c' V' E' L' R := by
  obtain ⟨a0, a1, a2, a3, a6, rfl⟩ := ho
  refine ⟨hr.mem, ⟨a0, a1, a2, a3, a6, hr.rd⟩, h.rows.keep fun y hy hO => hr.keep y hy fun e => hO (e ▸ h.hO), hS, hc, h.hO, fun g hg => ?_, fun y hy => h.small y (hsub y hy), hvs⟩
  by_cases e : g = rb
  · subst e; exact ⟨_, hr.rd⟩
  · obtain ⟨o, ho⟩ := h.all g hg
    exact ⟨o, hr.keep _ ho e⟩
theorem RS.grow {R' : List (List Value × Value)} (h : RS w0 w O rb rest A c V E L R) (hm : Mem w0 w' L') (hR : RowsP 9 O L' R') (hk : ∀ y ∈ L, y.1 ∈ O → y ∈ L') : RS w0 w' O rb rest A c V E L' R' := by
  obtain ⟨a0, a1, a2, a3, a6, hrd⟩ := h.rd
  refine ⟨hm, ⟨a0, a1, a2, a3, a6, hk _ hrd h.hO⟩, hR, h.sl, h.hc, h.hO, fun g hg => ?_, h.small, h.vs⟩
  obtain ⟨o, ho⟩ := h.all g hg
  exact ⟨o, hk _ ho hg⟩
/-- a new block beside -/
theorem RS.new {nb : Nat} {o : Obj} (h : RS w0 w O rb rest A c V E L R) (hb : nb = w.heap.size) (hw : w' = w.alloc o) : RS w0 w' O rb rest A c V E L R ∧ w'.heap[nb]? = some o := by
  subst hb hw
  exact ⟨h.call ((Ext.refl w).alloc o), heap_alloc_new w o⟩
end
theorem NewV.rs {w0 w : World} {O : List Nat} {rb : Nat} {rest : List ByteArray} {A : Option Addr} {c : Nat} {V E : Value} {L : List (Nat × Obj)} {R : List (List Value × Value)} {o : Obj} {K : Nat → World → Prop} (h : RS w0 w O rb rest A c V E L R) (hk : ∀ b w', RS w0 w' O rb rest A c V E L R → w'.heap[b]? = some o → K b w') : NewV w o K :=
  ⟨fun b w' hb hw => hk b w' (h.new hb hw).1 (h.new hb hw).2⟩
/-- what sees sees -/
theorem sees_rs {w0 w : World} {O : List Nat} {rb g : Nat} {rest : List ByteArray} {A : Option Addr} {c : Nat} {V E : Value} {L : List (Nat × Obj)} {R : List (List Value × Value)} (p : ByteArray → Bool) (h : RS w0 w O rb rest A c V E L R)
    (hp : ∀ x w1, x.size ≤ 140737488355328 → Gv Tryz.prog g [.string x] w1 fun v w2 => v = .bool (p x) ∧ Ext w1 w2) :
    Gv Tryz.prog 211 [.pointer (some ⟨rb, 0, none⟩), .func (.func g) #[] #[]] w fun v w' => v = .bool (seeB p rest) ∧ RS w0 w' O rb rest A c V E L R := by
  obtain ⟨a0, a1, a2, a3, a6, hrd⟩ := h.rd
  refine (sees_any rb g [] p rest A c _ w (h.mem.get hrd) (h.sl.ext h.mem.ext) (fun x ys w3 e _ => hp x w3 (by have := h.small x (by rw [e]; exact List.mem_cons_self ..); omega))).mono ?_
  rintro v w' ⟨rfl, he⟩
  exact ⟨rfl, h.call he⟩
theorem next_rs {w0 w : World} {O : List Nat} {rb : Nat} {x : ByteArray} {xs : List ByteArray} {A : Option Addr} {c : Nat} {V E : Value} {L : List (Nat × Obj)} {R : List (List Value × Value)} (h : RS w0 w O rb (x :: xs) A c V E L R) :
    Gv Tryz.prog 215 [.pointer (some ⟨rb, 0, none⟩)] w fun v w' => v = .string x ∧ ∃ A' c' L', RS w0 w' O rb xs A' c' V E L' R ∧ (∀ y ∈ L, y.1 ≠ rb → y ∈ L') := by
  obtain ⟨a0, a1, a2, a3, a6, hrd⟩ := h.rd
  refine (rdm_next h.mem hrd h.sl h.hc).mono ?_
  rintro v w' ⟨rfl, A', c', L', h1, h2, h3⟩
  exact ⟨rfl, A', c', L', h.step h3 ⟨_, _, _, _, _, rfl⟩ h1 h2 (fun y hy => List.mem_cons_of_mem _ hy) h.vs, h3.keep⟩
theorem strI : Tryz.prog.info? 9 = some ((Tryz.prog.info? 9).get (by kernel_rfl)) := (Option.some_get _).symm
theorem strZ : ((Tryz.prog.info? 9).get (by kernel_rfl)).zero = some (.string ⟨#[]⟩) := by kernel_rfl
theorem RowsP.nils (e : TypeId) (O : List Nat) (L : List (Nat × Obj)) (R : List (List Value × Value)) (h : ∀ p ∈ R, p = ([], .slice none 0 0)) : RowsP e O L R := by
  refine ⟨fun k p hp => ?_, fun k p g hp hg => ?_, fun k k' p p' g hp hp' _ hg => ?_⟩
  · rw [h p (List.mem_of_getElem? hp)]; exact RowB.nil e L
  · rw [h p (List.mem_of_getElem? hp)] at hg; cases hg
  · rw [h p (List.mem_of_getElem? hp)] at hg; cases hg
theorem RowsP.none_ {e : TypeId} {O : List Nat} {L : List (Nat × Obj)} : RowsP e O L [] := RowsP.nils e O L [] (by simp)
theorem restR_vars {rest r1 r2 : List ByteArray} (e1 : scriptR rest = r1) (e2 : regionR r1 = r2) : restR rest = (varsR [] r2).bind fun r => extN r.2.length r.1 r.2 := by rw [restR, e1, e2]
theorem rest_any (rb : Nat) (O : List Nat) (rest : List ByteArray) (A : Option Addr) (c : Nat) (w0 w : World) (L : List (Nat × Obj)) (h : RS w0 w O rb rest A c (.slice none 0 0) (.slice none 0 0) L []) (hn : rest.length ≤ 1000000) :
    Gv Tryz.prog 214 [.pointer (some ⟨rb, 0, none⟩)] w fun v w' => (restR rest = none ∧ v = .bool false ∧ Ext w0 w') ∨
      (∃ rest', restR rest = some rest' ∧ v = .bool true ∧ ∃ A' c' V E L', RS w0 w' O rb rest' A' c' V E L' [] ∧ rest'.length ≤ rest.length ∧ ∀ y ∈ L, y.1 ∈ O → y.1 ≠ rb → y ∈ L') := by
  refine gv (by kernel_rfl) Tryz.func214 rfl Tryz.ntmps214 rfl ?_; conv => whnf
  refine CallV.of (sees_rs (fun x => madeB x 4 4 true) h (fun x w1 hx => rest1_any x hx w1)) ?_
  rintro v w1 ⟨rfl, h1⟩
  (conv => whnf)
  cases hq : seeB (fun x => madeB x 4 4 true) rest
  case' false =>
    (repeat' (first
      | (refine Obl.mk ⟨by omega, by omega⟩ ?_; conv => whnf)
      | (refine Obl.mk ⟨by omega, by omega, ⟨by omega, by omega⟩⟩ ?_; conv => whnf)
      | ((with_reducible refine Tst.tt ?_); conv => whnf)
      | ((with_reducible refine Tst.ff ?_); conv => whnf)
      | ((with_reducible refine Tst.dec (fun _ => ?_) (fun _ => ?_)) <;> first | (exfalso; omega) | (conv => whnf))
      | ((with_reducible refine Tst.not ?_))
      | (refine Wit.conv ⟨by omega, by omega⟩ ?_; conv => whnf)
      | ((with_reducible refine IdxV.nat (by omega) ?_); conv => whnf)
      | ((with_reducible refine SameW.mk rfl ?_); conv => whnf)
      | (refine LoadV.mem (i := 0) (by assumption) rfl rfl ?_; conv => whnf)
      | (refine LoadV.mem (i := 1) (by assumption) rfl rfl ?_; conv => whnf)
      | (refine LoadV.mem (i := 2) (by assumption) rfl rfl ?_; conv => whnf)
      | ((with_reducible refine Tst.beqT ?_))
      | ((with_reducible refine Tst.beqF ?_))
      | (refine Tst.yes rfl ?_; conv => whnf)
      | (refine Tst.no rfl ?_; conv => whnf)))
    obtain ⟨r1, A1, c1, L1, e1, g1, k1, l1⟩ : ∃ r1 A1 c1 L1, scriptR rest = r1 ∧ RS w0 w1 O rb r1 A1 c1 (.slice none 0 0) (.slice none 0 0) L1 [] ∧ (∀ y ∈ L, y.1 ∈ O → y.1 ≠ rb → y ∈ L1) ∧ r1.length ≤ rest.length := by
      refine ⟨rest, A, c, L, ?_, h1, fun y hy _ _ => hy, Nat.le_refl _⟩
      cases rest with
      | nil => rfl
      | cons x xs => rw [scriptR, if_neg (by have : madeB x 4 4 true = false := hq; rw [this]; simp)]
    clear hq h1
  case' true =>
    obtain ⟨x, xs, rfl⟩ : ∃ x xs, rest = x :: xs := by
      cases rest with
      | nil => cases hq
      | cons x xs => exact ⟨x, xs, rfl⟩
    have hq : madeB x 4 4 true = true := hq
    (repeat' (first
      | (refine Obl.mk ⟨by omega, by omega⟩ ?_; conv => whnf)
      | (refine Obl.mk ⟨by omega, by omega, ⟨by omega, by omega⟩⟩ ?_; conv => whnf)
      | ((with_reducible refine Tst.tt ?_); conv => whnf)
      | ((with_reducible refine Tst.ff ?_); conv => whnf)
      | ((with_reducible refine Tst.dec (fun _ => ?_) (fun _ => ?_)) <;> first | (exfalso; omega) | (conv => whnf))
      | ((with_reducible refine Tst.not ?_))
      | (refine Wit.conv ⟨by omega, by omega⟩ ?_; conv => whnf)
      | ((with_reducible refine IdxV.nat (by omega) ?_); conv => whnf)
      | ((with_reducible refine SameW.mk rfl ?_); conv => whnf)
      | (refine LoadV.mem (i := 0) (by assumption) rfl rfl ?_; conv => whnf)
      | (refine LoadV.mem (i := 1) (by assumption) rfl rfl ?_; conv => whnf)
      | (refine LoadV.mem (i := 2) (by assumption) rfl rfl ?_; conv => whnf)
      | ((with_reducible refine Tst.beqT ?_))
      | ((with_reducible refine Tst.beqF ?_))
      | (refine Tst.yes rfl ?_; conv => whnf)
      | (refine Tst.no rfl ?_; conv => whnf)))
    refine CallV.of (next_rs h1) ?_
    rintro v w2 ⟨rfl, A2, c2, L2, h2, k2⟩
    (conv => whnf)
    obtain ⟨a0, a1, a2, a3, a6, hrd⟩ := id h2.rd
    refine rdm_store h2.mem hrd 2 rfl (show 2 < 7 by decide) rfl ?_
    intro w1 L3 hr3
    obtain ⟨r1, A1, c1, L1, e1, g1, k1, l1⟩ : ∃ r1 A1 c1 L1, scriptR (x :: xs) = r1 ∧ RS w0 w1 O rb r1 A1 c1 (.slice none 0 0) (.slice none 0 0) L1 [] ∧ (∀ y ∈ L, y.1 ∈ O → y.1 ≠ rb → y ∈ L1) ∧ r1.length ≤ (x :: xs).length :=
      ⟨xs, A2, c2, L3, by rw [scriptR, if_pos hq], h2.step hr3 ⟨_, _, _, _, _, rfl⟩ h2.sl h2.hc (fun y hy => hy) h2.vs, fun y hy _ hne => hr3.keep y (k2 y hy hne) hne, by simp⟩
    clear hq h1 h2 hr3 hrd k2
    (conv => whnf)
    (repeat' (first
      | (refine Obl.mk ⟨by omega, by omega⟩ ?_; conv => whnf)
      | (refine Obl.mk ⟨by omega, by omega, ⟨by omega, by omega⟩⟩ ?_; conv => whnf)
      | ((with_reducible refine Tst.tt ?_); conv => whnf)
      | ((with_reducible refine Tst.ff ?_); conv => whnf)
      | ((with_reducible refine Tst.dec (fun _ => ?_) (fun _ => ?_)) <;> first | (exfalso; omega) | (conv => whnf))
      | ((with_reducible refine Tst.not ?_))
      | (refine Wit.conv ⟨by omega, by omega⟩ ?_; conv => whnf)
      | ((with_reducible refine IdxV.nat (by omega) ?_); conv => whnf)
      | ((with_reducible refine SameW.mk rfl ?_); conv => whnf)
      | (refine LoadV.mem (i := 0) (by assumption) rfl rfl ?_; conv => whnf)
      | (refine LoadV.mem (i := 1) (by assumption) rfl rfl ?_; conv => whnf)
      | (refine LoadV.mem (i := 2) (by assumption) rfl rfl ?_; conv => whnf)
      | ((with_reducible refine Tst.beqT ?_))
      | ((with_reducible refine Tst.beqF ?_))
      | (refine Tst.yes rfl ?_; conv => whnf)
      | (refine Tst.no rfl ?_; conv => whnf)))
  all_goals
    refine CallV.of (sees_rs regB g1 (fun x w1 hx => region_any x hx w1)) ?_
    rintro v w1 ⟨rfl, g1⟩
    (conv => whnf)
    cases hq : seeB regB r1
    case' false =>
      (repeat' (first
      | (refine Obl.mk ⟨by omega, by omega⟩ ?_; conv => whnf)
      | (refine Obl.mk ⟨by omega, by omega, ⟨by omega, by omega⟩⟩ ?_; conv => whnf)
      | ((with_reducible refine Tst.tt ?_); conv => whnf)
      | ((with_reducible refine Tst.ff ?_); conv => whnf)
      | ((with_reducible refine Tst.dec (fun _ => ?_) (fun _ => ?_)) <;> first | (exfalso; omega) | (conv => whnf))
      | ((with_reducible refine Tst.not ?_))
      | (refine Wit.conv ⟨by omega, by omega⟩ ?_; conv => whnf)
      | ((with_reducible refine IdxV.nat (by omega) ?_); conv => whnf)
      | ((with_reducible refine SameW.mk rfl ?_); conv => whnf)
      | (refine LoadV.mem (i := 0) (by assumption) rfl rfl ?_; conv => whnf)
      | (refine LoadV.mem (i := 1) (by assumption) rfl rfl ?_; conv => whnf)
      | (refine LoadV.mem (i := 2) (by assumption) rfl rfl ?_; conv => whnf)
      | ((with_reducible refine Tst.beqT ?_))
      | ((with_reducible refine Tst.beqF ?_))
      | (refine Tst.yes rfl ?_; conv => whnf)
      | (refine Tst.no rfl ?_; conv => whnf)))
      obtain ⟨r2, A2, c2, L2, e2, g2, k2, l2⟩ : ∃ r2 A2 c2 L2, regionR r1 = r2 ∧ RS w0 w1 O rb r2 A2 c2 (.slice none 0 0) (.slice none 0 0) L2 [] ∧ (∀ y ∈ L1, y.1 ∈ O → y.1 ≠ rb → y ∈ L2) ∧ r2.length ≤ r1.length := by
        refine ⟨r1, A1, c1, L1, ?_, g1, fun y hy _ _ => hy, Nat.le_refl _⟩
        cases r1 with
        | nil => rfl
        | cons x xs => rw [regionR, if_neg (by have : regB x = false := hq; rw [this]; simp)]
      clear hq g1
    case' true =>
      obtain ⟨x, xs, rfl⟩ : ∃ x xs, r1 = x :: xs := by
        cases r1 with
        | nil => cases hq
        | cons x xs => exact ⟨x, xs, rfl⟩
      have hq : regB x = true := hq
      (repeat' (first
      | (refine Obl.mk ⟨by omega, by omega⟩ ?_; conv => whnf)
      | (refine Obl.mk ⟨by omega, by omega, ⟨by omega, by omega⟩⟩ ?_; conv => whnf)
      | ((with_reducible refine Tst.tt ?_); conv => whnf)
      | ((with_reducible refine Tst.ff ?_); conv => whnf)
      | ((with_reducible refine Tst.dec (fun _ => ?_) (fun _ => ?_)) <;> first | (exfalso; omega) | (conv => whnf))
      | ((with_reducible refine Tst.not ?_))
      | (refine Wit.conv ⟨by omega, by omega⟩ ?_; conv => whnf)
      | ((with_reducible refine IdxV.nat (by omega) ?_); conv => whnf)
      | ((with_reducible refine SameW.mk rfl ?_); conv => whnf)
      | (refine LoadV.mem (i := 0) (by assumption) rfl rfl ?_; conv => whnf)
      | (refine LoadV.mem (i := 1) (by assumption) rfl rfl ?_; conv => whnf)
      | (refine LoadV.mem (i := 2) (by assumption) rfl rfl ?_; conv => whnf)
      | ((with_reducible refine Tst.beqT ?_))
      | ((with_reducible refine Tst.beqF ?_))
      | (refine Tst.yes rfl ?_; conv => whnf)
      | (refine Tst.no rfl ?_; conv => whnf)))
      refine CallV.of (next_rs g1) ?_
      rintro v w2 ⟨rfl, A3, c3, L3, h3, k3⟩
      (conv => whnf)
      obtain ⟨a0, a1, a2, a3, a6, hrd⟩ := id h3.rd
      refine rdm_store h3.mem hrd 3 rfl (show 3 < 7 by decide) rfl ?_
      intro w1 L4 hr3
      obtain ⟨r2, A2, c2, L2, e2, g2, k2, l2⟩ : ∃ r2 A2 c2 L2, regionR (x :: xs) = r2 ∧ RS w0 w1 O rb r2 A2 c2 (.slice none 0 0) (.slice none 0 0) L2 [] ∧ (∀ y ∈ L1, y.1 ∈ O → y.1 ≠ rb → y ∈ L2) ∧ r2.length ≤ (x :: xs).length :=
        ⟨xs, A3, c3, L4, by rw [regionR, if_pos hq], h3.step hr3 ⟨_, _, _, _, _, rfl⟩ h3.sl h3.hc (fun y hy => hy) h3.vs, fun y hy _ hne => hr3.keep y (k3 y hy hne) hne, by simp⟩
      clear hq g1 h3 hr3 hrd k3
      (conv => whnf)
      (repeat' (first
      | (refine Obl.mk ⟨by omega, by omega⟩ ?_; conv => whnf)
      | (refine Obl.mk ⟨by omega, by omega, ⟨by omega, by omega⟩⟩ ?_; conv => whnf)
      | ((with_reducible refine Tst.tt ?_); conv => whnf)
      | ((with_reducible refine Tst.ff ?_); conv => whnf)
      | ((with_reducible refine Tst.dec (fun _ => ?_) (fun _ => ?_)) <;> first | (exfalso; omega) | (conv => whnf))
      | ((with_reducible refine Tst.not ?_))
      | (refine Wit.conv ⟨by omega, by omega⟩ ?_; conv => whnf)
      | ((with_reducible refine IdxV.nat (by omega) ?_); conv => whnf)
      | ((with_reducible refine SameW.mk rfl ?_); conv => whnf)
      | (refine LoadV.mem (i := 0) (by assumption) rfl rfl ?_; conv => whnf)
      | (refine LoadV.mem (i := 1) (by assumption) rfl rfl ?_; conv => whnf)
      | (refine LoadV.mem (i := 2) (by assumption) rfl rfl ?_; conv => whnf)
      | ((with_reducible refine Tst.beqT ?_))
      | ((with_reducible refine Tst.beqF ?_))
      | (refine Tst.yes rfl ?_; conv => whnf)
      | (refine Tst.no rfl ?_; conv => whnf)))
  all_goals
    have eR := restR_vars e1 e2
    rw [eR]
    refine loopV (fun x : List ByteArray × List ByteArray × Option Addr × Nat => [(0, .pointer (some ⟨rb, 0, none⟩)), (3, .slice x.2.2.1 x.1.length x.2.2.2)])
      (fun x w3 => ∃ A c V E L3 vs, RS w0 w3 O rb x.2.1 A c V E L3 [(x.1.map Value.string, .slice x.2.2.1 x.1.length x.2.2.2), (vs, V), ([], E)] ∧ vs.length ≤ x.1.length ∧ (∀ y ∈ L2, y.1 ∈ O → y.1 ≠ rb → y ∈ L3) ∧ varsR [] r2 = varsR x.1 x.2.1 ∧ x.1.length + x.2.1.length ≤ r2.length)
      (fun x => x.2.1.length) ([], r2, none, 0) ⟨rfl, rfl, trivial⟩ ⟨A2, c2, _, _, L2, [], { g2 with rows := RowsP.nils _ _ _ _ (by simp) }, by simp, fun y hy _ _ => hy, rfl, by simp⟩ ?_
    rintro ⟨seen, r3, sA, sc⟩ w3 ρ' ⟨A3, c3, V3, E3, L3, vs, h3, hvs, k3, e3, l3⟩
    simp only at h3 hvs e3 l3
    dsimp only
    (conv => whnf)
    refine CallV.of (sees_rs varB h3 (fun x w1 hx => variant_any x hx w1)) ?_
    rintro v w4 ⟨rfl, h4⟩
    (conv => whnf)
    cases hq : seeB varB r3
    case' true =>
      obtain ⟨x, xs, rfl⟩ : ∃ x xs, r3 = x :: xs := by
        cases r3 with
        | nil => cases hq
        | cons x xs => exact ⟨x, xs, rfl⟩
      have hq : varB x = true := hq
      have hx := h4.small x (List.mem_cons_self ..)
      simp only [List.length_cons] at l3
      rw [varsR, if_pos hq] at e3
      (repeat' (first
      | (refine Obl.mk ⟨by omega, by omega⟩ ?_; conv => whnf)
      | (refine Obl.mk ⟨by omega, by omega, ⟨by omega, by omega⟩⟩ ?_; conv => whnf)
      | ((with_reducible refine Tst.tt ?_); conv => whnf)
      | ((with_reducible refine Tst.ff ?_); conv => whnf)
      | ((with_reducible refine Tst.dec (fun _ => ?_) (fun _ => ?_)) <;> first | (exfalso; omega) | (conv => whnf))
      | ((with_reducible refine Tst.not ?_))
      | (refine Wit.conv ⟨by omega, by omega⟩ ?_; conv => whnf)
      | ((with_reducible refine IdxV.nat (by omega) ?_); conv => whnf)
      | ((with_reducible refine SameW.mk rfl ?_); conv => whnf)
      | (refine LoadV.mem (i := 0) (by assumption) rfl rfl ?_; conv => whnf)
      | (refine LoadV.mem (i := 1) (by assumption) rfl rfl ?_; conv => whnf)
      | (refine LoadV.mem (i := 2) (by assumption) rfl rfl ?_; conv => whnf)
      | ((with_reducible refine Tst.beqT ?_))
      | ((with_reducible refine Tst.beqF ?_))
      | (refine Tst.yes rfl ?_; conv => whnf)
      | (refine Tst.no rfl ?_; conv => whnf)))
      refine CallV.of (next_rs h4) ?_
      rintro v w5 ⟨rfl, A5, c5, L5, h5, k5⟩
      (conv => whnf)
      refine CallV.of (lower_any x (by omega) w5) ?_
      rintro v w6 ⟨rfl, he6⟩
      have h6 := h5.call he6
      (conv => whnf)
      refine CallV.of (containsS_any seen sA sc (lowS x) w6 ((h6.rows.row 0 _ rfl).sl h6.mem) (by omega)) ?_
      rintro v w7 ⟨⟨b, rfl, hb⟩, rfl⟩
      (conv => whnf)
      cases b
      · rw [if_neg (by intro h; have := hb.2 h; cases this)] at e3
        (repeat' (first
      | (refine Obl.mk ⟨by omega, by omega⟩ ?_; conv => whnf)
      | (refine Obl.mk ⟨by omega, by omega, ⟨by omega, by omega⟩⟩ ?_; conv => whnf)
      | ((with_reducible refine Tst.tt ?_); conv => whnf)
      | ((with_reducible refine Tst.ff ?_); conv => whnf)
      | ((with_reducible refine Tst.dec (fun _ => ?_) (fun _ => ?_)) <;> first | (exfalso; omega) | (conv => whnf))
      | ((with_reducible refine Tst.not ?_))
      | (refine Wit.conv ⟨by omega, by omega⟩ ?_; conv => whnf)
      | ((with_reducible refine IdxV.nat (by omega) ?_); conv => whnf)
      | ((with_reducible refine SameW.mk rfl ?_); conv => whnf)
      | (refine LoadV.mem (i := 0) (by assumption) rfl rfl ?_; conv => whnf)
      | (refine LoadV.mem (i := 1) (by assumption) rfl rfl ?_; conv => whnf)
      | (refine LoadV.mem (i := 2) (by assumption) rfl rfl ?_; conv => whnf)
      | ((with_reducible refine Tst.beqT ?_))
      | ((with_reducible refine Tst.beqF ?_))
      | (refine Tst.yes rfl ?_; conv => whnf)
      | (refine Tst.no rfl ?_; conv => whnf)))
        refine CallV.of (lower_any x (by omega) w7) ?_
        rintro v w8 ⟨rfl, he8⟩
        have h8 := h6.call he8
        (conv => whnf)
        refine NewV.rs h8 ?_
        intro nb w9 h9 hnb
        (conv => whnf)
        refine h9.rows.app 0 rfl Tryz.underlying37 strI strZ (by kernel_rfl) rfl (by decide +kernel) h9.mem h9.all (by simp) rfl (by rw [cell_heap hnb]; rfl) (by omega) ?_
        intro sA2 sc2 w10 L10 m10 R10 k10
        have h10 := h9.grow m10 R10 k10
        (conv => whnf)
        obtain ⟨VA, vc, rfl⟩ : ∃ VA vc, V3 = .slice VA vs.length vc := (h10.rows.row 1 _ rfl).slice
        obtain ⟨a0, a1, a2, a3, a6, hrd⟩ := id h10.rd
        refine rdm_load h10.mem hrd 4 rfl rfl ?_
        (conv => whnf)
        refine NewV.rs h10 ?_
        intro nb2 w11 h11 hnb2
        (conv => whnf)
        refine h11.rows.app 1 rfl Tryz.underlying37 strI strZ (by kernel_rfl) rfl (by decide +kernel) h11.mem h11.all rfl rfl (by rw [cell_heap hnb2]; rfl) (by omega) ?_
        intro VA2 vc2 w12 L12 m12 R12 k12
        have h12 := h11.grow m12 R12 k12
        obtain ⟨a0, a1, a2, a3, a6, hrd⟩ := id h12.rd
        (conv => whnf)
        refine rdm_store h12.mem hrd 4 rfl (show 4 < 7 by decide) rfl ?_
        intro w13 L13 hr13
        have h13 := h12.step (V' := .slice VA2 (vs.length + 1) vc2) (E' := E3) hr13 ⟨_, _, _, _, _, rfl⟩ h12.sl h12.hc (fun y hy => hy) ⟨⟨_, _, _, rfl⟩, h12.vs.2⟩
        (conv => whnf)
        (repeat' (first
      | (refine Obl.mk ⟨by omega, by omega⟩ ?_; conv => whnf)
      | (refine Obl.mk ⟨by omega, by omega, ⟨by omega, by omega⟩⟩ ?_; conv => whnf)
      | ((with_reducible refine Tst.tt ?_); conv => whnf)
      | ((with_reducible refine Tst.ff ?_); conv => whnf)
      | ((with_reducible refine Tst.dec (fun _ => ?_) (fun _ => ?_)) <;> first | (exfalso; omega) | (conv => whnf))
      | ((with_reducible refine Tst.not ?_))
      | (refine Wit.conv ⟨by omega, by omega⟩ ?_; conv => whnf)
      | ((with_reducible refine IdxV.nat (by omega) ?_); conv => whnf)
      | ((with_reducible refine SameW.mk rfl ?_); conv => whnf)
      | (refine LoadV.mem (i := 0) (by assumption) rfl rfl ?_; conv => whnf)
      | (refine LoadV.mem (i := 1) (by assumption) rfl rfl ?_; conv => whnf)
      | (refine LoadV.mem (i := 2) (by assumption) rfl rfl ?_; conv => whnf)
      | ((with_reducible refine Tst.beqT ?_))
      | ((with_reducible refine Tst.beqF ?_))
      | (refine Tst.yes rfl ?_; conv => whnf)
      | (refine Tst.no rfl ?_; conv => whnf)))
        refine ⟨(seen ++ [lowS x], xs, sA2, sc2), ⟨rfl, by simp only [List.length_append]; rfl, trivial⟩, ⟨A5, c5, .slice VA2 (vs.length + 1) vc2, E3, L13, vs ++ [.string x], ?_, by simp; omega, fun y hy hO hne => hr13.keep y (k12 y (k10 y (k5 y (k3 y hy hO hne) hne) hO) hO) hne, e3, by simp; omega⟩, by simp⟩
        simp only [List.map_append, List.length_append, List.map_cons, List.map_nil, List.length_singleton]
        exact h13
      · rw [if_pos (hb.1 rfl)] at e3
        (repeat' (first
      | (refine Obl.mk ⟨by omega, by omega⟩ ?_; conv => whnf)
      | (refine Obl.mk ⟨by omega, by omega, ⟨by omega, by omega⟩⟩ ?_; conv => whnf)
      | ((with_reducible refine Tst.tt ?_); conv => whnf)
      | ((with_reducible refine Tst.ff ?_); conv => whnf)
      | ((with_reducible refine Tst.dec (fun _ => ?_) (fun _ => ?_)) <;> first | (exfalso; omega) | (conv => whnf))
      | ((with_reducible refine Tst.not ?_))
      | (refine Wit.conv ⟨by omega, by omega⟩ ?_; conv => whnf)
      | ((with_reducible refine IdxV.nat (by omega) ?_); conv => whnf)
      | ((with_reducible refine SameW.mk rfl ?_); conv => whnf)
      | (refine LoadV.mem (i := 0) (by assumption) rfl rfl ?_; conv => whnf)
      | (refine LoadV.mem (i := 1) (by assumption) rfl rfl ?_; conv => whnf)
      | (refine LoadV.mem (i := 2) (by assumption) rfl rfl ?_; conv => whnf)
      | ((with_reducible refine Tst.beqT ?_))
      | ((with_reducible refine Tst.beqF ?_))
      | (refine Tst.yes rfl ?_; conv => whnf)
      | (refine Tst.no rfl ?_; conv => whnf)))
        exact .inl ⟨by rw [e3]; rfl, rfl, h6.mem.ext⟩
  all_goals
    have eV : varsR seen r3 = some (seen, r3) := by
      cases r3 with
      | nil => rfl
      | cons x xs => rw [varsR, if_neg (by have : varB x = false := hq; rw [this]; simp)]
    have eB : (varsR [] r2).bind (fun r => extN r.2.length r.1 r.2) = extN r3.length seen r3 := by rw [e3, eV]; rfl
    rw [eB]
    clear hq h3 eV eB
    (repeat' (first
      | (refine Obl.mk ⟨by omega, by omega⟩ ?_; conv => whnf)
      | (refine Obl.mk ⟨by omega, by omega, ⟨by omega, by omega⟩⟩ ?_; conv => whnf)
      | ((with_reducible refine Tst.tt ?_); conv => whnf)
      | ((with_reducible refine Tst.ff ?_); conv => whnf)
      | ((with_reducible refine Tst.dec (fun _ => ?_) (fun _ => ?_)) <;> first | (exfalso; omega) | (conv => whnf))
      | ((with_reducible refine Tst.not ?_))
      | (refine Wit.conv ⟨by omega, by omega⟩ ?_; conv => whnf)
      | ((with_reducible refine IdxV.nat (by omega) ?_); conv => whnf)
      | ((with_reducible refine SameW.mk rfl ?_); conv => whnf)
      | (refine LoadV.mem (i := 0) (by assumption) rfl rfl ?_; conv => whnf)
      | (refine LoadV.mem (i := 1) (by assumption) rfl rfl ?_; conv => whnf)
      | (refine LoadV.mem (i := 2) (by assumption) rfl rfl ?_; conv => whnf)
      | ((with_reducible refine Tst.beqT ?_))
      | ((with_reducible refine Tst.beqF ?_))
      | (refine Tst.yes rfl ?_; conv => whnf)
      | (refine Tst.no rfl ?_; conv => whnf)))
    refine loopV (fun x : Nat × List ByteArray × List ByteArray × Option Addr × Nat => [(0, .pointer (some ⟨rb, 0, none⟩)), (3, .slice x.2.2.2.1 x.2.1.length x.2.2.2.2)])
      (fun x w5 => ∃ A c V E L5 vs es, RS w0 w5 O rb x.2.2.1 A c V E L5 [(x.2.1.map Value.string, .slice x.2.2.2.1 x.2.1.length x.2.2.2.2), (vs, V), (es, E)] ∧ es.length ≤ x.2.1.length ∧ (∀ y ∈ L3, y.1 ∈ O → y.1 ≠ rb → y ∈ L5) ∧ extN r3.length seen r3 = extN x.1 x.2.1 x.2.2.1 ∧ x.2.2.1.length ≤ x.1 ∧ x.2.1.length + x.2.2.1.length ≤ r2.length)
      (fun x => x.2.2.1.length) (r3.length, seen, r3, sA, sc) ⟨rfl, rfl, trivial⟩ ⟨A3, c3, V3, E3, L3, vs, [], h4, by simp, fun y hy _ _ => hy, rfl, Nat.le_refl _, l3⟩ ?_
    rintro ⟨k, sn, r5, sB, sd⟩ w5 ρ'' ⟨A5, c5, V5, E5, L5, vs5, es, h5, hes, k5, e5, lk, l5⟩
    simp only at h5 hes e5 lk l5
    dsimp only
    (conv => whnf)
    refine CallV.of (sees_rs extS h5 (fun x w1 hx => rest2_any x hx w1)) ?_
    rintro v w6 ⟨rfl, h6⟩
    (conv => whnf)
    cases hq : seeB extS r5
    · have eX : extN k sn r5 = some r5 := by
        cases r5 with
        | nil => cases k <;> rfl
        | cons x xs =>
          cases k with
          | zero => simp at lk
          | succ k => rw [extN, if_neg (by have : extS x = false := hq; rw [this]; simp)]
      (repeat' (first
      | (refine Obl.mk ⟨by omega, by omega⟩ ?_; conv => whnf)
      | (refine Obl.mk ⟨by omega, by omega, ⟨by omega, by omega⟩⟩ ?_; conv => whnf)
      | ((with_reducible refine Tst.tt ?_); conv => whnf)
      | ((with_reducible refine Tst.ff ?_); conv => whnf)
      | ((with_reducible refine Tst.dec (fun _ => ?_) (fun _ => ?_)) <;> first | (exfalso; omega) | (conv => whnf))
      | ((with_reducible refine Tst.not ?_))
      | (refine Wit.conv ⟨by omega, by omega⟩ ?_; conv => whnf)
      | ((with_reducible refine IdxV.nat (by omega) ?_); conv => whnf)
      | ((with_reducible refine SameW.mk rfl ?_); conv => whnf)
      | (refine LoadV.mem (i := 0) (by assumption) rfl rfl ?_; conv => whnf)
      | (refine LoadV.mem (i := 1) (by assumption) rfl rfl ?_; conv => whnf)
      | (refine LoadV.mem (i := 2) (by assumption) rfl rfl ?_; conv => whnf)
      | ((with_reducible refine Tst.beqT ?_))
      | ((with_reducible refine Tst.beqF ?_))
      | (refine Tst.yes rfl ?_; conv => whnf)
      | (refine Tst.no rfl ?_; conv => whnf)))
      refine .inr ⟨r5, by rw [e5, eX], rfl, A5, c5, V5, E5, L5, { h6 with rows := RowsP.none_ }, by omega, fun y hy hO hne => k5 y (k3 y (k2 y (k1 y hy hO hne) hO hne) hO hne) hO hne⟩
    · obtain ⟨x, xs, rfl⟩ : ∃ x xs, r5 = x :: xs := by
        cases r5 with
        | nil => cases hq
        | cons x xs => exact ⟨x, xs, rfl⟩
      have hq : extS x = true := hq
      have hx1 : x.size = 1 := by simp [extS, madeB] at hq; omega
      obtain ⟨k, rfl⟩ : ∃ k', k = k' + 1 := ⟨k - 1, by simp at lk; omega⟩
      have hx := h6.small x (List.mem_cons_self ..)
      simp only [List.length_cons] at l5 lk
      rw [extN, if_pos hq] at e5
      (repeat' (first
      | (refine Obl.mk ⟨by omega, by omega⟩ ?_; conv => whnf)
      | (refine Obl.mk ⟨by omega, by omega, ⟨by omega, by omega⟩⟩ ?_; conv => whnf)
      | ((with_reducible refine Tst.tt ?_); conv => whnf)
      | ((with_reducible refine Tst.ff ?_); conv => whnf)
      | ((with_reducible refine Tst.dec (fun _ => ?_) (fun _ => ?_)) <;> first | (exfalso; omega) | (conv => whnf))
      | ((with_reducible refine Tst.not ?_))
      | (refine Wit.conv ⟨by omega, by omega⟩ ?_; conv => whnf)
      | ((with_reducible refine IdxV.nat (by omega) ?_); conv => whnf)
      | ((with_reducible refine SameW.mk rfl ?_); conv => whnf)
      | (refine LoadV.mem (i := 0) (by assumption) rfl rfl ?_; conv => whnf)
      | (refine LoadV.mem (i := 1) (by assumption) rfl rfl ?_; conv => whnf)
      | (refine LoadV.mem (i := 2) (by assumption) rfl rfl ?_; conv => whnf)
      | ((with_reducible refine Tst.beqT ?_))
      | ((with_reducible refine Tst.beqF ?_))
      | (refine Tst.yes rfl ?_; conv => whnf)
      | (refine Tst.no rfl ?_; conv => whnf)))
      refine CallV.of (next_rs h6) ?_
      rintro v w7 ⟨rfl, A7, c7, L7, h7, k7⟩
      (conv => whnf)
      obtain ⟨a0, a1, a2, a3, a6, hrd⟩ := id h7.rd
      refine CallV.of (rdm_tail (least := 2) h7.mem hrd h7.sl h7.hc h7.small (by omega)) ?_
      rintro v w8 ⟨pre, rest', sT, hP, hse, rfl, A8, c8, L8, hS8, hc8, hr8⟩
      obtain ⟨t1, t2⟩ := hP.take hse
      have t1 : xs.takeWhile extQ = pre := t1
      have t2 : xs.dropWhile extQ = rest' := t2
      have hlen : xs.length = pre.length + rest'.length := by rw [hP.eq]; simp
      have h8 := h7.step hr8 ⟨_, _, _, _, _, rfl⟩ hS8 hc8 (fun y hy => by rw [hP.eq]; exact List.mem_append_right _ hy) h7.vs
      rw [t1, t2] at e5
      have hsT := hP.size
      (conv => whnf)
      by_cases hp : pre = []
      · rw [if_pos (.inl hp)] at e5
        rw [decide_eq_false (by simp [hp])]
        (repeat' (first
      | (refine Obl.mk ⟨by omega, by omega⟩ ?_; conv => whnf)
      | (refine Obl.mk ⟨by omega, by omega, ⟨by omega, by omega⟩⟩ ?_; conv => whnf)
      | ((with_reducible refine Tst.tt ?_); conv => whnf)
      | ((with_reducible refine Tst.ff ?_); conv => whnf)
      | ((with_reducible refine Tst.dec (fun _ => ?_) (fun _ => ?_)) <;> first | (exfalso; omega) | (conv => whnf))
      | ((with_reducible refine Tst.not ?_))
      | (refine Wit.conv ⟨by omega, by omega⟩ ?_; conv => whnf)
      | ((with_reducible refine IdxV.nat (by omega) ?_); conv => whnf)
      | ((with_reducible refine SameW.mk rfl ?_); conv => whnf)
      | (refine LoadV.mem (i := 0) (by assumption) rfl rfl ?_; conv => whnf)
      | (refine LoadV.mem (i := 1) (by assumption) rfl rfl ?_; conv => whnf)
      | (refine LoadV.mem (i := 2) (by assumption) rfl rfl ?_; conv => whnf)
      | ((with_reducible refine Tst.beqT ?_))
      | ((with_reducible refine Tst.beqF ?_))
      | (refine Tst.yes rfl ?_; conv => whnf)
      | (refine Tst.no rfl ?_; conv => whnf)))
        exact .inl ⟨e5, rfl, h8.mem.ext⟩
      · rw [decide_eq_true (by simpa using hp)]
        (repeat' (first
      | (refine Obl.mk ⟨by omega, by omega⟩ ?_; conv => whnf)
      | (refine Obl.mk ⟨by omega, by omega, ⟨by omega, by omega⟩⟩ ?_; conv => whnf)
      | ((with_reducible refine Tst.tt ?_); conv => whnf)
      | ((with_reducible refine Tst.ff ?_); conv => whnf)
      | ((with_reducible refine Tst.dec (fun _ => ?_) (fun _ => ?_)) <;> first | (exfalso; omega) | (conv => whnf))
      | ((with_reducible refine Tst.not ?_))
      | (refine Wit.conv ⟨by omega, by omega⟩ ?_; conv => whnf)
      | ((with_reducible refine IdxV.nat (by omega) ?_); conv => whnf)
      | ((with_reducible refine SameW.mk rfl ?_); conv => whnf)
      | (refine LoadV.mem (i := 0) (by assumption) rfl rfl ?_; conv => whnf)
      | (refine LoadV.mem (i := 1) (by assumption) rfl rfl ?_; conv => whnf)
      | (refine LoadV.mem (i := 2) (by assumption) rfl rfl ?_; conv => whnf)
      | ((with_reducible refine Tst.beqT ?_))
      | ((with_reducible refine Tst.beqF ?_))
      | (refine Tst.yes rfl ?_; conv => whnf)
      | (refine Tst.no rfl ?_; conv => whnf)))
        refine CallV.of (lower_any x (by omega) w8) ?_
        rintro v w9 ⟨rfl, he9⟩
        have h9 := h8.call he9
        (conv => whnf)
        (repeat' (first
      | (refine Obl.mk ⟨by omega, by omega⟩ ?_; conv => whnf)
      | (refine Obl.mk ⟨by omega, by omega, ⟨by omega, by omega⟩⟩ ?_; conv => whnf)
      | ((with_reducible refine Tst.tt ?_); conv => whnf)
      | ((with_reducible refine Tst.ff ?_); conv => whnf)
      | ((with_reducible refine Tst.dec (fun _ => ?_) (fun _ => ?_)) <;> first | (exfalso; omega) | (conv => whnf))
      | ((with_reducible refine Tst.not ?_))
      | (refine Wit.conv ⟨by omega, by omega⟩ ?_; conv => whnf)
      | ((with_reducible refine IdxV.nat (by omega) ?_); conv => whnf)
      | ((with_reducible refine SameW.mk rfl ?_); conv => whnf)
      | (refine LoadV.mem (i := 0) (by assumption) rfl rfl ?_; conv => whnf)
      | (refine LoadV.mem (i := 1) (by assumption) rfl rfl ?_; conv => whnf)
      | (refine LoadV.mem (i := 2) (by assumption) rfl rfl ?_; conv => whnf)
      | ((with_reducible refine Tst.beqT ?_))
      | ((with_reducible refine Tst.beqF ?_))
      | (refine Tst.yes rfl ?_; conv => whnf)
      | (refine Tst.no rfl ?_; conv => whnf)))
        refine CallV.of (containsS_any sn sB sd (lowS x) w9 ((h9.rows.row 0 _ rfl).sl h9.mem) (by omega)) ?_
        rintro v w10 ⟨⟨b, rfl, hb⟩, rfl⟩
        cases b
        · rw [if_neg (by rintro (h | h); exact hp h; have := hb.2 h; cases this)] at e5
          (conv => whnf)
          (repeat' (first
      | (refine Obl.mk ⟨by omega, by omega⟩ ?_; conv => whnf)
      | (refine Obl.mk ⟨by omega, by omega, ⟨by omega, by omega⟩⟩ ?_; conv => whnf)
      | ((with_reducible refine Tst.tt ?_); conv => whnf)
      | ((with_reducible refine Tst.ff ?_); conv => whnf)
      | ((with_reducible refine Tst.dec (fun _ => ?_) (fun _ => ?_)) <;> first | (exfalso; omega) | (conv => whnf))
      | ((with_reducible refine Tst.not ?_))
      | (refine Wit.conv ⟨by omega, by omega⟩ ?_; conv => whnf)
      | ((with_reducible refine IdxV.nat (by omega) ?_); conv => whnf)
      | ((with_reducible refine SameW.mk rfl ?_); conv => whnf)
      | (refine LoadV.mem (i := 0) (by assumption) rfl rfl ?_; conv => whnf)
      | (refine LoadV.mem (i := 1) (by assumption) rfl rfl ?_; conv => whnf)
      | (refine LoadV.mem (i := 2) (by assumption) rfl rfl ?_; conv => whnf)
      | ((with_reducible refine Tst.beqT ?_))
      | ((with_reducible refine Tst.beqF ?_))
      | (refine Tst.yes rfl ?_; conv => whnf)
      | (refine Tst.no rfl ?_; conv => whnf)))
          refine CallV.of (lower_any x (by omega) w10) ?_
          rintro v w11 ⟨rfl, he11⟩
          have h11 := h9.call he11
          (conv => whnf)
          refine NewV.rs h11 ?_
          intro nb w12 h12 hnb
          (conv => whnf)
          refine h12.rows.app 0 rfl Tryz.underlying37 strI strZ (by kernel_rfl) rfl (by decide +kernel) h12.mem h12.all (by simp) rfl (by rw [cell_heap hnb]; rfl) (by omega) ?_
          intro sA2 sc2 w13 L13 m13 R13 k13
          have h13 := h12.grow m13 R13 k13
          (conv => whnf)
          obtain ⟨EA, ec, rfl⟩ : ∃ EA ec, E5 = .slice EA es.length ec := (h13.rows.row 2 _ rfl).slice
          obtain ⟨a0, a1, a2, a3, a6, hrd⟩ := id h13.rd
          refine rdm_load h13.mem hrd 5 rfl rfl ?_
          (conv => whnf)
          refine ⟨by show x.size + sT.size ≤ _; omega, ?_⟩
          (conv => whnf)
          refine NewV.rs h13 ?_
          intro nb2 w14 h14 hnb2
          (conv => whnf)
          refine h14.rows.app 2 rfl Tryz.underlying37 strI strZ (by kernel_rfl) rfl (by decide +kernel) h14.mem h14.all rfl rfl (by rw [cell_heap hnb2]; rfl) (by omega) ?_
          intro EA2 ec2 w15 L15 m15 R15 k15
          have h15 := h14.grow m15 R15 k15
          obtain ⟨a0, a1, a2, a3, a6, hrd⟩ := id h15.rd
          (conv => whnf)
          refine rdm_store h15.mem hrd 5 rfl (show 5 < 7 by decide) rfl ?_
          intro w16 L16 hr16
          have h16 := h15.step (V' := V5) (E' := .slice EA2 (es.length + 1) ec2) hr16 ⟨_, _, _, _, _, rfl⟩ h15.sl h15.hc (fun y hy => hy) ⟨h15.vs.1, ⟨_, _, _, rfl⟩⟩
          (conv => whnf)
          (repeat' (first
      | (refine Obl.mk ⟨by omega, by omega⟩ ?_; conv => whnf)
      | (refine Obl.mk ⟨by omega, by omega, ⟨by omega, by omega⟩⟩ ?_; conv => whnf)
      | ((with_reducible refine Tst.tt ?_); conv => whnf)
      | ((with_reducible refine Tst.ff ?_); conv => whnf)
      | ((with_reducible refine Tst.dec (fun _ => ?_) (fun _ => ?_)) <;> first | (exfalso; omega) | (conv => whnf))
      | ((with_reducible refine Tst.not ?_))
      | (refine Wit.conv ⟨by omega, by omega⟩ ?_; conv => whnf)
      | ((with_reducible refine IdxV.nat (by omega) ?_); conv => whnf)
      | ((with_reducible refine SameW.mk rfl ?_); conv => whnf)
      | (refine LoadV.mem (i := 0) (by assumption) rfl rfl ?_; conv => whnf)
      | (refine LoadV.mem (i := 1) (by assumption) rfl rfl ?_; conv => whnf)
      | (refine LoadV.mem (i := 2) (by assumption) rfl rfl ?_; conv => whnf)
      | ((with_reducible refine Tst.beqT ?_))
      | ((with_reducible refine Tst.beqF ?_))
      | (refine Tst.yes rfl ?_; conv => whnf)
      | (refine Tst.no rfl ?_; conv => whnf)))
          refine ⟨(k, sn ++ [lowS x], rest', sA2, sc2), ⟨rfl, by simp only [List.length_append]; rfl, trivial⟩, ⟨A8, c8, V5, .slice EA2 (es.length + 1) ec2, L16, vs5, es ++ [.string (x ++ sT)], ?_, by simp; omega, fun y hy hO hne => hr16.keep y (k15 y (k13 y (hr8.keep y (k7 y (k5 y hy hO hne) hne) hne) hO) hO) hne, e5, by simp only; omega, by simp; omega⟩, by simp only [List.length_cons]; omega⟩
          simp only [List.map_append, List.length_append, List.map_cons, List.map_nil, List.length_singleton]
          exact h16
        · rw [if_pos (.inr (hb.1 rfl))] at e5
          (conv => whnf)
          (repeat' (first
      | (refine Obl.mk ⟨by omega, by omega⟩ ?_; conv => whnf)
      | (refine Obl.mk ⟨by omega, by omega, ⟨by omega, by omega⟩⟩ ?_; conv => whnf)
      | ((with_reducible refine Tst.tt ?_); conv => whnf)
      | ((with_reducible refine Tst.ff ?_); conv => whnf)
      | ((with_reducible refine Tst.dec (fun _ => ?_) (fun _ => ?_)) <;> first | (exfalso; omega) | (conv => whnf))
      | ((with_reducible refine Tst.not ?_))
      | (refine Wit.conv ⟨by omega, by omega⟩ ?_; conv => whnf)
      | ((with_reducible refine IdxV.nat (by omega) ?_); conv => whnf)
      | ((with_reducible refine SameW.mk rfl ?_); conv => whnf)
      | (refine LoadV.mem (i := 0) (by assumption) rfl rfl ?_; conv => whnf)
      | (refine LoadV.mem (i := 1) (by assumption) rfl rfl ?_; conv => whnf)
      | (refine LoadV.mem (i := 2) (by assumption) rfl rfl ?_; conv => whnf)
      | ((with_reducible refine Tst.beqT ?_))
      | ((with_reducible refine Tst.beqF ?_))
      | (refine Tst.yes rfl ?_; conv => whnf)
      | (refine Tst.no rfl ?_; conv => whnf)))
          exact .inl ⟨e5, rfl, h9.mem.ext⟩
end Go.Proofs.YtajgbepghniciaaGreatDoor
