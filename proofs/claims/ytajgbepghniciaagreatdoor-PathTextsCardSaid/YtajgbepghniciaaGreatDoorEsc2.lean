/- utf: decoding and encoding; Escape of a text that needs none. -/
import Derived.Test.YtajgbepghniciaaGreatDoorBld
namespace Go.Proofs.YtajgbepghniciaaGreatDoor
open Go.RowKit V
set_option maxRecDepth 100000

theorem decN_cases (l : List UInt8) (h : (decN l).2 ≠ 0) :
    (∃ a t, l = a :: t ∧ decN l = (a.toNat, 1) ∧ a.toNat < 128) ∨
    (∃ a b t, l = a :: b :: t ∧ decN l = (a.toNat % 32 * 64 + b.toNat % 64, 2) ∧ 192 ≤ a.toNat ∧ a.toNat < 224 ∧ b.toNat / 64 = 2 ∧ 128 ≤ a.toNat % 32 * 64 + b.toNat % 64) ∨
    (∃ a b c t, l = a :: b :: c :: t ∧ decN l = ((a.toNat % 16 * 64 + b.toNat % 64) * 64 + c.toNat % 64, 3) ∧ 224 ≤ a.toNat ∧ a.toNat < 240 ∧ b.toNat / 64 = 2 ∧ c.toNat / 64 = 2 ∧
      2048 ≤ (a.toNat % 16 * 64 + b.toNat % 64) * 64 + c.toNat % 64 ∧ scalarB (((a.toNat % 16 * 64 + b.toNat % 64) * 64 + c.toNat % 64 : Nat) : Int) = true) ∨
    (∃ a b c d t, l = a :: b :: c :: d :: t ∧ decN l = (((a.toNat % 8 * 64 + b.toNat % 64) * 64 + c.toNat % 64) * 64 + d.toNat % 64, 4) ∧ 240 ≤ a.toNat ∧ a.toNat < 248 ∧ b.toNat / 64 = 2 ∧ c.toNat / 64 = 2 ∧ d.toNat / 64 = 2 ∧
      65536 ≤ ((a.toNat % 8 * 64 + b.toNat % 64) * 64 + c.toNat % 64) * 64 + d.toNat % 64 ∧ scalarB ((((a.toNat % 8 * 64 + b.toNat % 64) * 64 + c.toNat % 64) * 64 + d.toNat % 64 : Nat) : Int) = true) := by
  match l with
  | [] => exact absurd rfl h
  | a :: t =>
    have ha := a.toNat_lt
    generalize hd : decN (a :: t) = d at h ⊢
    unfold decN at hd
    by_cases h1 : a.toNat < 128
    · have e : leadI a.toNat = (1, a.toNat) := by rw [leadI, if_pos h1]
      simp only [e, Nat.sub_self, List.take_zero, List.all_nil, if_true, accR, List.foldl_nil, leastN] at hd
      rw [if_neg (by simp)] at hd
      left
      refine ⟨a, t, rfl, ?_, h1⟩
      have hs : scalarB (a.toNat : Int) = true := by simp [scalarB]; omega
      rw [hs] at hd
      simpa using hd.symm
    by_cases h2 : a.toNat < 192
    · have e : leadI a.toNat = (0, 0) := by rw [leadI, if_neg h1, if_pos h2]
      simp [e] at hd
      rw [← hd] at h; exact absurd rfl h
    by_cases h3 : a.toNat < 224
    · have e : leadI a.toNat = (2, a.toNat % 32) := by rw [leadI, if_neg h1, if_neg h2, if_pos h3]
      match t with
      | [] => simp [e] at hd; rw [← hd] at h; exact absurd rfl h
      | b :: t =>
        simp only [e, List.take_succ_cons, List.take_zero, List.all_cons, List.all_nil, Bool.and_true, accR, List.foldl_cons, List.foldl_nil, List.length_cons, Nat.reduceSub] at hd
        rw [if_neg (by omega)] at hd
        cases hc : cont b <;> simp only [hc] at hd
        · simp at hd; rw [← hd] at h; exact absurd rfl h
        · rw [if_pos True.intro] at hd
          split at hd
          · rw [← hd] at h; exact absurd rfl h
          · rename_i hn
            right; left
            simp [cont] at hc
            refine ⟨a, b, t, rfl, hd.symm, by omega, h3, hc, ?_⟩
            have h2k : leastN 2 = 128 := rfl
            rw [h2k] at hn; omega
    by_cases h4 : a.toNat < 240
    · have e : leadI a.toNat = (3, a.toNat % 16) := by rw [leadI, if_neg h1, if_neg h2, if_neg h3, if_pos h4]
      match t with
      | [] => simp [e] at hd; rw [← hd] at h; exact absurd rfl h
      | [b] => simp [e] at hd; rw [← hd] at h; exact absurd rfl h
      | b :: c :: t =>
        simp only [e, List.take_succ_cons, List.take_zero, List.all_cons, List.all_nil, Bool.and_true, accR, List.foldl_cons, List.foldl_nil, List.length_cons, Nat.reduceSub] at hd
        rw [if_neg (by omega)] at hd
        cases hc : cont b && cont c <;> simp only [hc] at hd
        · simp at hd; rw [← hd] at h; exact absurd rfl h
        · rw [if_pos True.intro] at hd
          split at hd
          · rw [← hd] at h; exact absurd rfl h
          · rename_i hn
            right; right; left
            simp [cont] at hc
            simp only [not_or, Bool.not_eq_false] at hn
            refine ⟨a, b, c, t, rfl, hd.symm, by omega, h4, hc.1, hc.2, ?_, hn.2⟩
            have := hn.1; have h2k : leastN 3 = 2048 := rfl; omega
    by_cases h5 : a.toNat < 248
    · have e : leadI a.toNat = (4, a.toNat % 8) := by rw [leadI, if_neg h1, if_neg h2, if_neg h3, if_neg h4, if_pos h5]
      match t with
      | [] => simp [e] at hd; rw [← hd] at h; exact absurd rfl h
      | [b] => simp [e] at hd; rw [← hd] at h; exact absurd rfl h
      | [b, c] => simp [e] at hd; rw [← hd] at h; exact absurd rfl h
      | b :: c :: d :: t =>
        simp only [e, List.take_succ_cons, List.take_zero, List.all_cons, List.all_nil, Bool.and_true, accR, List.foldl_cons, List.foldl_nil, List.length_cons, Nat.reduceSub] at hd
        rw [if_neg (by omega)] at hd
        cases hc : cont b && (cont c && cont d) <;> simp only [hc] at hd
        · simp at hd; rw [← hd] at h; exact absurd rfl h
        · rw [if_pos True.intro] at hd
          split at hd
          · rw [← hd] at h; exact absurd rfl h
          · rename_i hn
            right; right; right
            simp [cont] at hc
            simp only [not_or, Bool.not_eq_false] at hn
            refine ⟨a, b, c, d, t, rfl, hd.symm, by omega, h5, hc.1, hc.2.1, hc.2.2, ?_, hn.2⟩
            have := hn.1; have h2k : leastN 4 = 65536 := rfl; omega
    · have e : leadI a.toNat = (0, 0) := by rw [leadI, if_neg h1, if_neg h2, if_neg h3, if_neg h4, if_neg h5]
      simp [e] at hd
      rw [← hd] at h; exact absurd rfl h

theorem u8_eq (n : Nat) (a : UInt8) (h : n = a.toNat) : UInt8.ofNat n = a := by subst h; simp
theorem decN_enc {l : List UInt8} (h : (decN l).2 ≠ 0) : scalarB (decN l).1 = true ∧ encL (decN l).1 = l.take (decN l).2 ∧ (encL (decN l).1).length = (decN l).2 := by
  rcases decN_cases l h with ⟨a, t, rfl, e, h1⟩ | ⟨a, b, t, rfl, e, h1, h2, h3, h4⟩ | ⟨a, b, c, t, rfl, e, h1, h2, h3, h4, h5, h6⟩ | ⟨a, b, c, d, t, rfl, e, h1, h2, h3, h4, h5, h6, h7⟩
  · rw [e]
    simp only
    have hs : scalarB (a.toNat : Int) = true := by simp [scalarB]; omega
    refine ⟨hs, ?_⟩
    unfold encL; rw [if_pos h1]
    simp
  · rw [e]
    simp only
    have ha := a.toNat_lt; have hb := b.toNat_lt
    refine ⟨by simp [scalarB]; omega, ?_⟩
    unfold encL; rw [if_neg (by omega), if_pos (by omega)]
    rw [u8_eq _ a (by omega), u8_eq _ b (by omega)]
    simp
  · rw [e]
    simp only
    have ha := a.toNat_lt; have hb := b.toNat_lt; have hc := c.toNat_lt
    refine ⟨h6, ?_⟩
    unfold encL; rw [if_neg (by omega), if_neg (by omega), if_pos (by omega)]
    rw [u8_eq _ a (by omega), u8_eq _ b (by omega), u8_eq _ c (by omega)]
    simp
  · rw [e]
    simp only
    have ha := a.toNat_lt; have hb := b.toNat_lt; have hc := c.toNat_lt; have hd := d.toNat_lt
    refine ⟨h7, ?_⟩
    unfold encL; rw [if_neg (by omega), if_neg (by omega), if_neg (by omega)]
    rw [u8_eq _ a (by omega), u8_eq _ b (by omega), u8_eq _ c (by omega), u8_eq _ d (by omega)]
    simp

theorem gb_of {s : ByteArray} {p k : Nat} {l : List UInt8} (h : s.data.toList.drop p = l) : gb s (p + k) = l.getD k 0 := by rw [← h, drop_getD]
theorem decode_decN (s : ByteArray) (p : Nat) (h : (decN (s.data.toList.drop p)).2 ≠ 0) : Utf8.decode s p = decN (s.data.toList.drop p) := by
  have hlen := drop_len s p
  unfold Utf8.decode
  simp only [get!_gb]
  rcases decN_cases _ h with ⟨a, t, hl, e, h1⟩ | ⟨a, b, t, hl, e, h1, h2, h3, h4⟩ | ⟨a, b, c, t, hl, e, h1, h2, h3, h4, h5, h6⟩ | ⟨a, b, c, d, t, hl, e, h1, h2, h3, h4, h5, h6, h7⟩
  all_goals simp only [gb_of hl, hl]; rw [hl] at e hlen; rw [e]; simp only [List.length_cons] at hlen
  all_goals simp only [List.getD_cons_zero, List.getD_cons_succ]
  · rw [if_pos h1]
  · have ha := a.toNat_lt; have hb := b.toNat_lt
    rw [if_neg (by omega), if_pos (by simp; omega), if_pos (by omega)]
  · have ha := a.toNat_lt; have hb := b.toNat_lt; have hc := c.toNat_lt
    have hv : Utf8.valid ((a.toNat % 16 * 4096 + b.toNat % 64 * 64 + c.toNat % 64 : Nat) : Int) = true := by
      simp [scalarB] at h6; simp [Utf8.valid]; omega
    rw [if_neg (by omega), if_neg (by simp; omega), if_pos (by simp; omega), hv, if_pos (by simp; omega)]
    exact Prod.ext (by dsimp only; omega) rfl
  · have ha := a.toNat_lt; have hb := b.toNat_lt; have hc := c.toNat_lt; have hd := d.toNat_lt
    have hv : Utf8.valid ((a.toNat % 8 * 262144 + b.toNat % 64 * 4096 + c.toNat % 64 * 64 + d.toNat % 64 : Nat) : Int) = true := by
      simp [scalarB] at h7; simp [Utf8.valid]; omega
    rw [if_neg (by omega), if_neg (by simp; omega), if_neg (by simp; omega), if_pos (by simp; omega), hv, if_pos (by simp; omega)]
    exact Prod.ext (by dsimp only; omega) rfl

namespace V
theorem Rw.setO {w0 w w' : World} {v : Value} {e : TypeId} {size n : Nat} {xs : List Value} {L : List (Nat × Obj)} (h : Rw w0 w v e size n xs L) {i b : Nat} {o : Obj} (o' : Obj)
    (hi : L[i]? = some (b, o)) (hw : w' = setO w b o') : Rw w0 w' v e size n xs (L.set i (b, o')) := by
  have hm := h.mem.setO o' hi hw
  have hb : v.ownBlock ≠ some b := h.apart _ (List.mem_of_getElem? hi)
  refine ⟨hm, ?_, fun y hy => ?_⟩
  · subst hw
    refine h.own.kept (row := some b) ⟨rfl, rfl, rfl, by simp [V.setO], fun k _ hk => setO_other (fun e => hk (by simp [e]))⟩ ?_
    exact Or.inr hb
  · rcases List.mem_or_eq_of_mem_set hy with hy | rfl
    · exact h.apart y hy
    · exact hb
theorem NextS.rw {w0 w : World} {v : Value} {e : TypeId} {size n : Nat} {xs : List Value} {L : List (Nat × Obj)} {r pos : Nat} {s : ByteArray} {K : Value → World → Prop} (h : Rw w0 w v e size n xs L) {i : Nat} (hi : L[i]? = some (r, .stringIter s pos))
    (h1 : pos < s.size → ∀ w', Rw w0 w' v e size n xs (L.set i (r, .stringIter s (pos + (Utf8.decode s pos).2))) → K (.tuple #[.bool true, .int .i64 pos, .int .i32 (Utf8.decode s pos).1]) w')
    (h2 : ¬ pos < s.size → K (.tuple #[.bool false]) w) : NextS w r K :=
  ⟨s, pos, h.mem.get (List.mem_of_getElem? hi), fun hp w' hw => h1 hp w' (h.setO _ hi hw), h2⟩
theorem NewV.rw {w0 w : World} {v : Value} {e : TypeId} {size n : Nat} {xs : List Value} {L : List (Nat × Obj)} {o : Obj} {K : Nat → World → Prop} (h : Rw w0 w v e size n xs L) (hk : ∀ b w', Rw w0 w' v e size n xs ((b, o) :: L) → K b w') : NewV w o K :=
  ⟨fun b w' hb hw => hk b w' (h.newBlk hb hw)⟩
theorem Bld.call {w0 w w' : World} {b : Nat} {l : List UInt8} {L : List (Nat × Obj)} (h : Bld w0 w b l L) (he : Ext w w') : Bld w0 w' b l L := by
  obtain ⟨⟨p, v, hp, hR⟩⟩ := h
  exact ⟨⟨p, v, hp, hR.call he⟩⟩
theorem Bld.nil {w0 w : World} {b : Nat} {L : List (Nat × Obj)} (h : Mem w0 w ((b, .cells #[.pointer none, .slice none 0 0] 303 (0, 0)) :: L)) : Bld w0 w b [] L :=
  ⟨⟨.pointer none, .slice none 0 0, .inl rfl, Rw.nil h⟩⟩
theorem Bld.ext {w0 w : World} {b : Nat} {l : List UInt8} {L : List (Nat × Obj)} (h : Bld w0 w b l L) : Ext w0 w := by
  obtain ⟨⟨p, v, hp, hR⟩⟩ := h
  exact hR.mem.ext
theorem Rw.perm2 {w0 w : World} {v : Value} {e : TypeId} {size n : Nat} {xs : List Value} {x y : Nat × Obj} {L : List (Nat × Obj)} (h : Rw w0 w v e size n xs (x :: y :: L)) : Rw w0 w v e size n xs (y :: x :: L) :=
  ⟨h.mem.perm (List.Perm.swap ..), h.own, fun z hz => h.apart z (by simp at hz ⊢; rcases hz with h | h | h <;> simp [h])⟩
theorem NewV.bld {w0 w : World} {b : Nat} {l : List UInt8} {L : List (Nat × Obj)} {o : Obj} {K : Nat → World → Prop} (h : Bld w0 w b l L) (hk : ∀ c w', Bld w0 w' b l ((c, o) :: L) → K c w') : NewV w o K := by
  obtain ⟨⟨p, v, hp, hR⟩⟩ := h
  exact NewV.rw hR fun c w' h' => hk c w' ⟨⟨p, v, hp, h'.perm2⟩⟩
theorem NextS.bld {w0 w : World} {b : Nat} {l : List UInt8} {L : List (Nat × Obj)} {r pos : Nat} {s : ByteArray} {K : Value → World → Prop} (h : Bld w0 w b l ((r, .stringIter s pos) :: L))
    (h1 : pos < s.size → ∀ w', Bld w0 w' b l ((r, .stringIter s (pos + (Utf8.decode s pos).2)) :: L) → K (.tuple #[.bool true, .int .i64 pos, .int .i32 (Utf8.decode s pos).1]) w')
    (h2 : ¬ pos < s.size → K (.tuple #[.bool false]) w) : NextS w r K := by
  obtain ⟨⟨p, v, hp, hR⟩⟩ := h
  exact NextS.rw hR (i := 1) rfl (fun hp' w' h' => h1 hp' w' ⟨⟨p, v, hp, h'⟩⟩) h2
end V

theorem BytesS.all {w : World} {b n : Nat} {l : List UInt8} {K : Value → Prop} (h : CellsAt w b 0 (byteCells l)) (hn : l.length = n) (hk : K (.string ⟨l.toArray⟩)) : BytesS w (some ⟨b, 0, none⟩) n K :=
  ⟨l, hn, fun _ => ⟨b, 0, rfl, h⟩, hk⟩

/-- no byte of a text is barred -/
def unb (s : ByteArray) : Prop := s.data.toList.any barB = false
theorem written_plain (r : Nat) (h : r ≤ 1114111) (hb : barR r = false) (w : World) :
    Gv Tryz.prog 244 [.int .i32 r, .int .i64 2] w fun v w' => v = .string ⟨(encL r).toArray⟩ ∧ Ext w w' := by
  have h32 : ¬ r ≤ 32 := by
    intro hr
    have : (UInt8.ofNat r).toNat = r := by rw [UInt8.toNat_ofNat']; omega
    simp [barR, barB, this] at hb; omega
  have hmem : r < 128 → Lib.indexByte signs.data.toList ((r : Int).toNat.toUInt8) < 0 := by
    intro hr
    have h1 := (indexByte_mem signs.data.toList ((r : Int).toNat.toUInt8)).1
    rcases Int.lt_or_le (Lib.indexByte signs.data.toList ((r : Int).toNat.toUInt8)) 0 with h2 | h2
    · exact h2
    · have h3 := h1 h2
      simp [barR, barB, hr] at hb
      exact absurd (by simpa using h3) hb.2
  have fin : ∀ w1 : World, Ext w w1 → ∀ ρ' : Nat → Value, True := fun _ _ _ => trivial
  refine gv (by kernel_rfl) Tryz.func244 rfl Tryz.ntmps244 rfl ?_; conv => whnf
  (repeat' (first
      | (refine Obl.mk ⟨by omega, by omega⟩ ?_; conv => whnf)
      | (refine Obl.mk ⟨by omega, by omega, ⟨by omega, by omega⟩⟩ ?_; conv => whnf)
      | ((with_reducible refine Tst.tt ?_); conv => whnf)
      | ((with_reducible refine Tst.ff ?_); conv => whnf)
      | ((with_reducible refine Tst.dec (fun _ => ?_) (fun _ => ?_)) <;> first | (exfalso; omega) | (conv => whnf))
      | ((with_reducible refine Tst.not ?_))
      | (refine Wit.conv ⟨by omega, by omega⟩ ?_; conv => whnf)
      | ((with_reducible refine IdxV.nat (by omega) ?_); conv => whnf)
      | ((with_reducible refine SameW.mk rfl ?_); conv => whnf)
      | (refine LoadV.mem (i := 0) (by assumption) rfl rfl ?_; conv => whnf)
      | (refine LoadV.mem (i := 1) (by assumption) rfl rfl ?_; conv => whnf)
      | (refine LoadV.mem (i := 2) (by assumption) rfl rfl ?_; conv => whnf)
      | ((with_reducible refine Tst.beqT ?_))
      | ((with_reducible refine Tst.beqF ?_))
      | (refine Tst.yes rfl ?_; conv => whnf)
      | (refine Tst.no rfl ?_; conv => whnf)))
  · refine CallV.of (indexByte_any signs r w) ?_
    rintro v w1 ⟨rfl, rfl⟩
    have := hmem (by omega)
    (conv => whnf)
    (repeat' (first
      | (refine Obl.mk ⟨by omega, by omega⟩ ?_; conv => whnf)
      | (refine Obl.mk ⟨by omega, by omega, ⟨by omega, by omega⟩⟩ ?_; conv => whnf)
      | ((with_reducible refine Tst.tt ?_); conv => whnf)
      | ((with_reducible refine Tst.ff ?_); conv => whnf)
      | ((with_reducible refine Tst.dec (fun _ => ?_) (fun _ => ?_)) <;> first | (exfalso; omega) | (conv => whnf))
      | ((with_reducible refine Tst.not ?_))
      | (refine Wit.conv ⟨by omega, by omega⟩ ?_; conv => whnf)
      | ((with_reducible refine IdxV.nat (by omega) ?_); conv => whnf)
      | ((with_reducible refine SameW.mk rfl ?_); conv => whnf)
      | (refine LoadV.mem (i := 0) (by assumption) rfl rfl ?_; conv => whnf)
      | (refine LoadV.mem (i := 1) (by assumption) rfl rfl ?_; conv => whnf)
      | (refine LoadV.mem (i := 2) (by assumption) rfl rfl ?_; conv => whnf)
      | ((with_reducible refine Tst.beqT ?_))
      | ((with_reducible refine Tst.beqF ?_))
      | (refine Tst.yes rfl ?_; conv => whnf)
      | (refine Tst.no rfl ?_; conv => whnf)))
    refine CallV.of (bytes_any r h _) ?_
    rintro v w2 ⟨b, rfl, hc, he⟩
    (conv => whnf)
    refine BytesS.all hc rfl ?_
    (conv => whnf)
    exact ⟨rfl, he⟩
  · refine CallV.of (bytes_any r h _) ?_
    rintro v w2 ⟨b, rfl, hc, he⟩
    (conv => whnf)
    refine BytesS.all hc rfl ?_
    (conv => whnf)
    exact ⟨rfl, he⟩

theorem unb_at {s : ByteArray} (hu : unb s) (p : Nat) (hp : p < s.size) : barB (gb s p) = false := by
  have h := List.any_eq_false.1 hu (gb s p) (by rw [← Nat.add_zero p, gb, List.getD_eq_getElem?_getD, List.getElem?_eq_getElem (by simpa using hp)]; simp)
  simpa using h
/-- utf.Escape of a text that needs none. -/
theorem escape_plain (s : ByteArray) (hs : s.size ≤ 140737488355328) (hv : scal s.data.toList ≠ none) (hu : unb s) (w : World) :
    Gv Tryz.prog 192 [.string s, .int .i64 2] w fun v w' => v = .tuple #[.string s, .nilIface] ∧ Ext w w' := by
  refine gv (by kernel_rfl) Tryz.func192 rfl Tryz.ntmps192 rfl ?_; conv => whnf
  refine CallV.of (check_any s hs w) ?_
  rintro v wz ⟨⟨i, rfl, _, h1, _⟩, rfl⟩
  obtain rfl := h1 hv
  (conv => whnf)
  (repeat' (first
      | (refine Obl.mk ⟨by omega, by omega⟩ ?_; conv => whnf)
      | (refine Obl.mk ⟨by omega, by omega, ⟨by omega, by omega⟩⟩ ?_; conv => whnf)
      | ((with_reducible refine Tst.tt ?_); conv => whnf)
      | ((with_reducible refine Tst.ff ?_); conv => whnf)
      | ((with_reducible refine Tst.dec (fun _ => ?_) (fun _ => ?_)) <;> first | (exfalso; omega) | (conv => whnf))
      | ((with_reducible refine Tst.not ?_))
      | (refine Wit.conv ⟨by omega, by omega⟩ ?_; conv => whnf)
      | ((with_reducible refine IdxV.nat (by omega) ?_); conv => whnf)
      | ((with_reducible refine SameW.mk rfl ?_); conv => whnf)
      | (refine LoadV.mem (i := 0) (by assumption) rfl rfl ?_; conv => whnf)
      | (refine LoadV.mem (i := 1) (by assumption) rfl rfl ?_; conv => whnf)
      | (refine LoadV.mem (i := 2) (by assumption) rfl rfl ?_; conv => whnf)
      | ((with_reducible refine Tst.beqT ?_))
      | ((with_reducible refine Tst.beqF ?_))
      | (refine Tst.yes rfl ?_; conv => whnf)
      | (refine Tst.no rfl ?_; conv => whnf)))
  refine NewV.mem (Mem.nil _) ?_
  intro b w1 hm
  have hB : Bld wz w1 b [] [] := Bld.nil hm
  (conv => whnf)
  refine NewV.bld hB ?_
  intro it w2 hB
  (conv => whnf)
  refine loopV (fun pos : Nat => [(0, .string s), (1, .int .i64 2), (7, .pointer (some ⟨b, 0, none⟩)), (17, .pointer (some ⟨it, 0, none⟩))])
    (fun pos w3 => pos ≤ s.size ∧ Bld wz w3 b (s.data.toList.take pos) [(it, .stringIter s pos)] ∧ scal (s.data.toList.drop pos) ≠ none) (fun pos => s.size - pos) 0 ⟨rfl, rfl, rfl, rfl, trivial⟩ ⟨by omega, hB, hv⟩ ?_
  rintro pos w3 ρ' ⟨hp, hB, hsc⟩
  (conv => whnf)
  refine NextS.bld hB ?_ ?_
  · intro hlt w4 hB4
    have hn0 : (decN (s.data.toList.drop pos)).2 ≠ 0 := fun h0 => hsc (scal_none (drop_ne s pos hlt) h0)
    have hd := decode_decN s pos hn0
    obtain ⟨e1, e2, e3⟩ := decN_enc hn0
    have hle := decN_le (s.data.toList.drop pos)
    rw [drop_len] at hle
    rw [hd] at hB4 ⊢
    obtain ⟨r, hr⟩ : ∃ r, r = (decN (s.data.toList.drop pos)).1 := ⟨_, rfl⟩
    obtain ⟨n, hn⟩ : ∃ n, n = (decN (s.data.toList.drop pos)).2 := ⟨_, rfl⟩
    rw [← hr, ← hn] at e2 e3
    rw [← hr] at e1
    rw [← hn] at hB4 hn0 hle
    rw [← hr]
    have hr1 : r ≤ 1114111 := by simp [scalarB] at e1; omega
    have hbar : barR r = false := by
      unfold barR
      by_cases h128 : r < 128
      · have hg : UInt8.ofNat r = gb s pos := by
          have e4 : encL r = [UInt8.ofNat r] := by unfold encL; rw [if_pos h128]
          rw [e4] at e2 e3
          simp only [List.length_cons, List.length_nil] at e3
          rw [← e3, drop_get s pos hlt] at e2
          simpa using e2
        rw [hg, unb_at hu pos hlt]; simp
      · simp [h128]
    (conv => whnf)
    (repeat' (first
      | (refine Obl.mk ⟨by omega, by omega⟩ ?_; conv => whnf)
      | (refine Obl.mk ⟨by omega, by omega, ⟨by omega, by omega⟩⟩ ?_; conv => whnf)
      | ((with_reducible refine Tst.tt ?_); conv => whnf)
      | ((with_reducible refine Tst.ff ?_); conv => whnf)
      | ((with_reducible refine Tst.dec (fun _ => ?_) (fun _ => ?_)) <;> first | (exfalso; omega) | (conv => whnf))
      | ((with_reducible refine Tst.not ?_))
      | (refine Wit.conv ⟨by omega, by omega⟩ ?_; conv => whnf)
      | ((with_reducible refine IdxV.nat (by omega) ?_); conv => whnf)
      | ((with_reducible refine SameW.mk rfl ?_); conv => whnf)
      | (refine LoadV.mem (i := 0) (by assumption) rfl rfl ?_; conv => whnf)
      | (refine LoadV.mem (i := 1) (by assumption) rfl rfl ?_; conv => whnf)
      | (refine LoadV.mem (i := 2) (by assumption) rfl rfl ?_; conv => whnf)
      | ((with_reducible refine Tst.beqT ?_))
      | ((with_reducible refine Tst.beqF ?_))
      | (refine Tst.yes rfl ?_; conv => whnf)
      | (refine Tst.no rfl ?_; conv => whnf)))
    refine CallV.of (written_plain r hr1 hbar _) ?_
    rintro v w5 ⟨rfl, he⟩
    (conv => whnf)
    have hl : (s.data.toList.take pos).length = pos := by simp; omega
    refine CallV.of (writeString_any b _ _ wz w5 _ (hB4.call he) (fun x hx c fz => by simp at hx; subst hx; simp) (by
      rw [hl]
      have : (⟨(encL r).toArray⟩ : ByteArray).size = n := by rw [← e3]; rfl
      omega)) ?_
    rintro v w6 ⟨rfl, hB6⟩
    (conv => whnf)
    (repeat' (first
      | (refine Obl.mk ⟨by omega, by omega⟩ ?_; conv => whnf)
      | (refine Obl.mk ⟨by omega, by omega, ⟨by omega, by omega⟩⟩ ?_; conv => whnf)
      | ((with_reducible refine Tst.tt ?_); conv => whnf)
      | ((with_reducible refine Tst.ff ?_); conv => whnf)
      | ((with_reducible refine Tst.dec (fun _ => ?_) (fun _ => ?_)) <;> first | (exfalso; omega) | (conv => whnf))
      | ((with_reducible refine Tst.not ?_))
      | (refine Wit.conv ⟨by omega, by omega⟩ ?_; conv => whnf)
      | ((with_reducible refine IdxV.nat (by omega) ?_); conv => whnf)
      | ((with_reducible refine SameW.mk rfl ?_); conv => whnf)
      | (refine LoadV.mem (i := 0) (by assumption) rfl rfl ?_; conv => whnf)
      | (refine LoadV.mem (i := 1) (by assumption) rfl rfl ?_; conv => whnf)
      | (refine LoadV.mem (i := 2) (by assumption) rfl rfl ?_; conv => whnf)
      | ((with_reducible refine Tst.beqT ?_))
      | ((with_reducible refine Tst.beqF ?_))
      | (refine Tst.yes rfl ?_; conv => whnf)
      | (refine Tst.no rfl ?_; conv => whnf)))
    refine ⟨pos + n, ⟨rfl, rfl, rfl, rfl, trivial⟩, ⟨by omega, ?_, ?_⟩, by omega⟩
    · have e5 : s.data.toList.take pos ++ (encL r).toArray.toList = s.data.toList.take (pos + n) := by
        rw [List.take_add, ← e2]
      rw [← e5]; exact hB6
    · rw [scal_step (drop_ne s pos hlt) (by rw [← hn]; exact hn0), ← hn, List.drop_drop] at hsc
      intro h0; rw [h0] at hsc; exact hsc rfl
  · intro hge
    (conv => whnf)
    (repeat' (first
      | (refine Obl.mk ⟨by omega, by omega⟩ ?_; conv => whnf)
      | (refine Obl.mk ⟨by omega, by omega, ⟨by omega, by omega⟩⟩ ?_; conv => whnf)
      | ((with_reducible refine Tst.tt ?_); conv => whnf)
      | ((with_reducible refine Tst.ff ?_); conv => whnf)
      | ((with_reducible refine Tst.dec (fun _ => ?_) (fun _ => ?_)) <;> first | (exfalso; omega) | (conv => whnf))
      | ((with_reducible refine Tst.not ?_))
      | (refine Wit.conv ⟨by omega, by omega⟩ ?_; conv => whnf)
      | ((with_reducible refine IdxV.nat (by omega) ?_); conv => whnf)
      | ((with_reducible refine SameW.mk rfl ?_); conv => whnf)
      | (refine LoadV.mem (i := 0) (by assumption) rfl rfl ?_; conv => whnf)
      | (refine LoadV.mem (i := 1) (by assumption) rfl rfl ?_; conv => whnf)
      | (refine LoadV.mem (i := 2) (by assumption) rfl rfl ?_; conv => whnf)
      | ((with_reducible refine Tst.beqT ?_))
      | ((with_reducible refine Tst.beqF ?_))
      | (refine Tst.yes rfl ?_; conv => whnf)
      | (refine Tst.no rfl ?_; conv => whnf)))
    refine CallV.of (builderString_any b _ wz w3 _ hB) ?_
    rintro v w4 ⟨rfl, he⟩
    (conv => whnf)
    refine ⟨?_, he⟩
    rw [List.take_of_length_le (by simp; omega)]
end Go.Proofs.YtajgbepghniciaaGreatDoor
