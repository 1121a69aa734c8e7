/- utf: scalars, their bytes, the decoder. -/
import Derived.Test.YtajgbepghniciaaGreatDoorM
namespace Go.Proofs.YtajgbepghniciaaGreatDoor
open Go.RowKit V
set_option maxRecDepth 100000

def scalarB (r : Int) : Bool := decide (0 ≤ r ∧ r ≤ 1114111 ∧ (r < 55296 ∨ 57343 < r))
theorem scalarB_iff (r : Int) (b : Bool) : b = scalarB r ↔ (b = true ↔ (0 ≤ r ∧ r ≤ 1114111 ∧ (r < 55296 ∨ 57343 < r))) := by
  unfold scalarB; rw [Bool.eq_iff_iff]; simp

theorem scalar_any (r : Int) (w : World) :
    Gv Tryz.prog 252 [.int .i32 r] w fun v w' => v = .bool (scalarB r) ∧ w' = w := by
  refine gv (by kernel_rfl) Tryz.func252 rfl Tryz.ntmps252 rfl ?_; conv => whnf
  (repeat' (first
      | (refine Obl.mk ⟨by omega, by omega⟩ ?_; conv => whnf)
      | (refine Obl.mk ⟨by omega, by omega, ⟨by omega, by omega⟩⟩ ?_; conv => whnf)
      | ((with_reducible refine Tst.tt ?_); conv => whnf)
      | ((with_reducible refine Tst.ff ?_); conv => whnf)
      | ((with_reducible refine Tst.dec (fun _ => ?_) (fun _ => ?_)) <;> first | (exfalso; omega) | (conv => whnf))
      | ((with_reducible refine Tst.not ?_))
      | (refine Wit.conv ⟨by omega, by omega⟩ ?_; conv => whnf)
      | ((with_reducible refine IdxV.nat (by omega) ?_); conv => whnf)
      | ((with_reducible refine SameW.mk rfl ?_); conv => whnf)
      | (refine LoadV.mem (i := 0) (by assumption) rfl rfl ?_; conv => whnf)
      | (refine LoadV.mem (i := 1) (by assumption) rfl rfl ?_; conv => whnf)
      | (refine LoadV.mem (i := 2) (by assumption) rfl rfl ?_; conv => whnf)
      | ((with_reducible refine Tst.beqT ?_))
      | ((with_reducible refine Tst.beqF ?_))
      | (refine Tst.yes rfl ?_; conv => whnf)
      | (refine Tst.no rfl ?_; conv => whnf)))
  all_goals (refine ⟨congrArg Value.bool ((scalarB_iff r _).2 ?_), rfl⟩; simp; try omega)

def leadI (c : Nat) : Nat × Nat :=
  if c < 0x80 then (1, c) else if c < 0xC0 then (0, 0) else if c < 0xE0 then (2, c % 32) else if c < 0xF0 then (3, c % 16) else if c < 0xF8 then (4, c % 8) else (0, 0)
theorem leadI_le (c : Nat) (_h : c < 256) : (leadI c).1 ≤ 4 ∧ (leadI c).2 < 128 := by
  unfold leadI; repeat (first | split | (refine ⟨?_, ?_⟩ <;> dsimp only <;> omega))

theorem lead_any (c : UInt8) (w : World) :
    Gv Tryz.prog 250 [.int .u8 c.toNat] w fun v w' => v = .tuple #[.int .i64 (leadI c.toNat).1, .int .i32 (leadI c.toNat).2] ∧ w' = w := by
  refine gv (by kernel_rfl) Tryz.func250 rfl Tryz.ntmps250 rfl ?_; conv => whnf
  (repeat' (first
      | (refine Obl.mk ⟨by omega, by omega⟩ ?_; conv => whnf)
      | (refine Obl.mk ⟨by omega, by omega, ⟨by omega, by omega⟩⟩ ?_; conv => whnf)
      | ((with_reducible refine Tst.tt ?_); conv => whnf)
      | ((with_reducible refine Tst.ff ?_); conv => whnf)
      | ((with_reducible refine Tst.dec (fun _ => ?_) (fun _ => ?_)) <;> first | (exfalso; omega) | (conv => whnf))
      | ((with_reducible refine Tst.not ?_))
      | (refine Wit.conv ⟨by omega, by omega⟩ ?_; conv => whnf)
      | ((with_reducible refine IdxV.nat (by omega) ?_); conv => whnf)
      | ((with_reducible refine SameW.mk rfl ?_); conv => whnf)
      | (refine LoadV.mem (i := 0) (by assumption) rfl rfl ?_; conv => whnf)
      | (refine LoadV.mem (i := 1) (by assumption) rfl rfl ?_; conv => whnf)
      | (refine LoadV.mem (i := 2) (by assumption) rfl rfl ?_; conv => whnf)
      | ((with_reducible refine Tst.beqT ?_))
      | ((with_reducible refine Tst.beqF ?_))
      | (refine Tst.yes rfl ?_; conv => whnf)
      | (refine Tst.no rfl ?_; conv => whnf)))
  · exact ⟨by rw [leadI, if_pos (by omega)]; rfl, rfl⟩
  · exact ⟨by rw [leadI, if_neg (by omega), if_pos (by omega)]; rfl, rfl⟩
  · refine Wit.eq (bits_mod 5 rfl ⟨by omega, by omega⟩ ⟨by omega, by omega⟩) ?_; (conv => whnf)
    (repeat' (first
      | (refine Obl.mk ⟨by omega, by omega⟩ ?_; conv => whnf)
      | (refine Obl.mk ⟨by omega, by omega, ⟨by omega, by omega⟩⟩ ?_; conv => whnf)
      | ((with_reducible refine Tst.tt ?_); conv => whnf)
      | ((with_reducible refine Tst.ff ?_); conv => whnf)
      | ((with_reducible refine Tst.dec (fun _ => ?_) (fun _ => ?_)) <;> first | (exfalso; omega) | (conv => whnf))
      | ((with_reducible refine Tst.not ?_))
      | (refine Wit.conv ⟨by omega, by omega⟩ ?_; conv => whnf)
      | ((with_reducible refine IdxV.nat (by omega) ?_); conv => whnf)
      | ((with_reducible refine SameW.mk rfl ?_); conv => whnf)
      | (refine LoadV.mem (i := 0) (by assumption) rfl rfl ?_; conv => whnf)
      | (refine LoadV.mem (i := 1) (by assumption) rfl rfl ?_; conv => whnf)
      | (refine LoadV.mem (i := 2) (by assumption) rfl rfl ?_; conv => whnf)
      | ((with_reducible refine Tst.beqT ?_))
      | ((with_reducible refine Tst.beqF ?_))
      | (refine Tst.yes rfl ?_; conv => whnf)
      | (refine Tst.no rfl ?_; conv => whnf)))
    exact ⟨by rw [leadI, if_neg (by omega), if_neg (by omega), if_pos (by omega)]; rfl, rfl⟩
  · refine Wit.eq (bits_mod 4 rfl ⟨by omega, by omega⟩ ⟨by omega, by omega⟩) ?_; (conv => whnf)
    (repeat' (first
      | (refine Obl.mk ⟨by omega, by omega⟩ ?_; conv => whnf)
      | (refine Obl.mk ⟨by omega, by omega, ⟨by omega, by omega⟩⟩ ?_; conv => whnf)
      | ((with_reducible refine Tst.tt ?_); conv => whnf)
      | ((with_reducible refine Tst.ff ?_); conv => whnf)
      | ((with_reducible refine Tst.dec (fun _ => ?_) (fun _ => ?_)) <;> first | (exfalso; omega) | (conv => whnf))
      | ((with_reducible refine Tst.not ?_))
      | (refine Wit.conv ⟨by omega, by omega⟩ ?_; conv => whnf)
      | ((with_reducible refine IdxV.nat (by omega) ?_); conv => whnf)
      | ((with_reducible refine SameW.mk rfl ?_); conv => whnf)
      | (refine LoadV.mem (i := 0) (by assumption) rfl rfl ?_; conv => whnf)
      | (refine LoadV.mem (i := 1) (by assumption) rfl rfl ?_; conv => whnf)
      | (refine LoadV.mem (i := 2) (by assumption) rfl rfl ?_; conv => whnf)
      | ((with_reducible refine Tst.beqT ?_))
      | ((with_reducible refine Tst.beqF ?_))
      | (refine Tst.yes rfl ?_; conv => whnf)
      | (refine Tst.no rfl ?_; conv => whnf)))
    exact ⟨by rw [leadI, if_neg (by omega), if_neg (by omega), if_neg (by omega), if_pos (by omega)]; rfl, rfl⟩
  · refine Wit.eq (bits_mod 3 rfl ⟨by omega, by omega⟩ ⟨by omega, by omega⟩) ?_; (conv => whnf)
    (repeat' (first
      | (refine Obl.mk ⟨by omega, by omega⟩ ?_; conv => whnf)
      | (refine Obl.mk ⟨by omega, by omega, ⟨by omega, by omega⟩⟩ ?_; conv => whnf)
      | ((with_reducible refine Tst.tt ?_); conv => whnf)
      | ((with_reducible refine Tst.ff ?_); conv => whnf)
      | ((with_reducible refine Tst.dec (fun _ => ?_) (fun _ => ?_)) <;> first | (exfalso; omega) | (conv => whnf))
      | ((with_reducible refine Tst.not ?_))
      | (refine Wit.conv ⟨by omega, by omega⟩ ?_; conv => whnf)
      | ((with_reducible refine IdxV.nat (by omega) ?_); conv => whnf)
      | ((with_reducible refine SameW.mk rfl ?_); conv => whnf)
      | (refine LoadV.mem (i := 0) (by assumption) rfl rfl ?_; conv => whnf)
      | (refine LoadV.mem (i := 1) (by assumption) rfl rfl ?_; conv => whnf)
      | (refine LoadV.mem (i := 2) (by assumption) rfl rfl ?_; conv => whnf)
      | ((with_reducible refine Tst.beqT ?_))
      | ((with_reducible refine Tst.beqF ?_))
      | (refine Tst.yes rfl ?_; conv => whnf)
      | (refine Tst.no rfl ?_; conv => whnf)))
    exact ⟨by rw [leadI, if_neg (by omega), if_neg (by omega), if_neg (by omega), if_neg (by omega), if_pos (by omega)]; rfl, rfl⟩
  · exact ⟨by rw [leadI, if_neg (by omega), if_neg (by omega), if_neg (by omega), if_neg (by omega), if_neg (by omega)]; rfl, rfl⟩

def leastN (n : Nat) : Nat := if n = 2 then 0x80 else if n = 3 then 0x800 else if n = 4 then 0x10000 else 0
theorem least_any (n : Nat) (h : n ≤ 4) (w : World) :
    Gv Tryz.prog 251 [.int .i64 n] w fun v w' => v = .int .i32 (leastN n) ∧ w' = w := by
  refine gv (by kernel_rfl) Tryz.func251 rfl Tryz.ntmps251 rfl ?_; conv => whnf
  (repeat' (first
      | (refine Obl.mk ⟨by omega, by omega⟩ ?_; conv => whnf)
      | (refine Obl.mk ⟨by omega, by omega, ⟨by omega, by omega⟩⟩ ?_; conv => whnf)
      | ((with_reducible refine Tst.tt ?_); conv => whnf)
      | ((with_reducible refine Tst.ff ?_); conv => whnf)
      | ((with_reducible refine Tst.dec (fun _ => ?_) (fun _ => ?_)) <;> first | (exfalso; omega) | (conv => whnf))
      | ((with_reducible refine Tst.not ?_))
      | (refine Wit.conv ⟨by omega, by omega⟩ ?_; conv => whnf)
      | ((with_reducible refine IdxV.nat (by omega) ?_); conv => whnf)
      | ((with_reducible refine SameW.mk rfl ?_); conv => whnf)
      | (refine LoadV.mem (i := 0) (by assumption) rfl rfl ?_; conv => whnf)
      | (refine LoadV.mem (i := 1) (by assumption) rfl rfl ?_; conv => whnf)
      | (refine LoadV.mem (i := 2) (by assumption) rfl rfl ?_; conv => whnf)
      | ((with_reducible refine Tst.beqT ?_))
      | ((with_reducible refine Tst.beqF ?_))
      | (refine Tst.yes rfl ?_; conv => whnf)
      | (refine Tst.no rfl ?_; conv => whnf)))
  refine ⟨.int .i32 (leastN n), ?_, ?_⟩
  · obtain rfl | rfl | rfl | rfl | rfl : n = 0 ∨ n = 1 ∨ n = 2 ∨ n = 3 ∨ n = 4 := by omega
    all_goals rfl
  · (conv => whnf)
    exact ⟨rfl, rfl⟩

/-- what the bytes behind the first one add. -/
def accR (r : Nat) (l : List UInt8) : Nat := l.foldl (fun r c => r * 64 + c.toNat % 64) r
def cont (c : UInt8) : Bool := c.toNat / 64 == 2
def decN : List UInt8 → Nat × Nat
  | [] => (0, 0)
  | b :: t =>
    let n := (leadI b.toNat).1
    if n = 0 ∨ t.length < n - 1 then (0, 0)
    else if (t.take (n - 1)).all cont then
      let r := accR (leadI b.toNat).2 (t.take (n - 1))
      if r < leastN n ∨ scalarB r = false then (0, 0) else (r, n)
    else (0, 0)
theorem accR_lt (r : Nat) (l : List UInt8) : accR r l < (r + 1) * 64 ^ l.length := by
  induction l generalizing r with
  | nil => simp [accR]
  | cons c l ih =>
    have h1 := ih (r * 64 + c.toNat % 64)
    have h2 : c.toNat % 64 < 64 := Nat.mod_lt _ (by omega)
    simp only [accR, List.foldl_cons, List.length_cons] at *
    refine Nat.lt_of_lt_of_le h1 ?_
    rw [Nat.pow_succ, Nat.mul_comm (64 ^ _) 64, ← Nat.mul_assoc]
    exact Nat.mul_le_mul_right _ (by omega)


theorem get_take {l : List UInt8} {k : Nat} (h : k < l.length) : l.take (k + 1) = l.take k ++ [l.getD k 0] := by
  rw [List.take_succ_eq_append_getElem h, List.getD_eq_getElem?_getD, List.getElem?_eq_getElem h, Option.getD_some]
theorem drop_get (s : ByteArray) (p : Nat) (h : p < s.size) : s.data.toList.drop p = gb s p :: s.data.toList.drop (p + 1) := by
  have h' : p < s.data.toList.length := by simpa using h
  rw [List.drop_eq_getElem_cons h', gb, List.getD_eq_getElem?_getD, List.getElem?_eq_getElem h', Option.getD_some]
theorem drop_getD (s : ByteArray) (p k : Nat) : (s.data.toList.drop p).getD k 0 = gb s (p + k) := by
  simp [gb, List.getD_eq_getElem?_getD]
theorem drop_len (s : ByteArray) (p : Nat) : (s.data.toList.drop p).length = s.size - p := by simp
theorem and192 (m : Nat) (h : m < 256) : m &&& 192 = m / 64 * 64 := by
  have : ∀ m : Fin 256, m.1 &&& 192 = m.1 / 64 * 64 := by decide +kernel
  exact this ⟨m, h⟩
theorem pow64 (j : Nat) (h : j ≤ 3) : 64 ^ j ≤ 262144 := Nat.pow_le_pow_right (by omega) h

theorem next_any (s : ByteArray) (p : Nat) (hp : p < s.size) (hs : s.size ≤ 140737488355328) (w : World) :
    Gv Tryz.prog 204 [.string s, .int .i64 p] w fun v w' => v = .tuple #[.int .i32 (decN (s.data.toList.drop p)).1, .int .i64 (decN (s.data.toList.drop p)).2] ∧ w' = w := by
  obtain ⟨t, ht⟩ : ∃ t, t = s.data.toList.drop (p + 1) := ⟨_, rfl⟩
  obtain ⟨n, hn⟩ : ∃ n, n = (leadI (gb s p).toNat).1 := ⟨_, rfl⟩
  obtain ⟨r, hr⟩ : ∃ r, r = (leadI (gb s p).toNat).2 := ⟨_, rfl⟩
  have hlead := lead_any (gb s p) w
  have hb := leadI_le (gb s p).toNat (gb s p).toNat_lt
  rw [← hn, ← hr] at hlead hb
  obtain ⟨hb1, hb2⟩ := hb
  have htl : t.length = s.size - (p + 1) := by rw [ht, drop_len]
  have hd : decN (s.data.toList.drop p) = if n = 0 ∨ t.length < n - 1 then (0, 0) else if (t.take (n - 1)).all cont then
      (if accR r (t.take (n - 1)) < leastN n ∨ scalarB (accR r (t.take (n - 1))) = false then (0, 0) else (accR r (t.take (n - 1)), n)) else (0, 0) := by
    rw [drop_get s p hp, ← ht, hn, hr]; rfl
  refine gv (by kernel_rfl) Tryz.func204 rfl Tryz.ntmps204 rfl ?_; conv => whnf
  (repeat' (first
      | (refine Obl.mk ⟨by omega, by omega⟩ ?_; conv => whnf)
      | (refine Obl.mk ⟨by omega, by omega, ⟨by omega, by omega⟩⟩ ?_; conv => whnf)
      | ((with_reducible refine Tst.tt ?_); conv => whnf)
      | ((with_reducible refine Tst.ff ?_); conv => whnf)
      | ((with_reducible refine Tst.dec (fun _ => ?_) (fun _ => ?_)) <;> first | (exfalso; omega) | (conv => whnf))
      | ((with_reducible refine Tst.not ?_))
      | (refine Wit.conv ⟨by omega, by omega⟩ ?_; conv => whnf)
      | ((with_reducible refine IdxV.nat (by omega) ?_); conv => whnf)
      | ((with_reducible refine SameW.mk rfl ?_); conv => whnf)
      | (refine LoadV.mem (i := 0) (by assumption) rfl rfl ?_; conv => whnf)
      | (refine LoadV.mem (i := 1) (by assumption) rfl rfl ?_; conv => whnf)
      | (refine LoadV.mem (i := 2) (by assumption) rfl rfl ?_; conv => whnf)
      | ((with_reducible refine Tst.beqT ?_))
      | ((with_reducible refine Tst.beqF ?_))
      | (refine Tst.yes rfl ?_; conv => whnf)
      | (refine Tst.no rfl ?_; conv => whnf)))
  refine CallV.of (hlead) ?_
  rintro v w' ⟨rfl, rfl⟩
  (conv => whnf)
  (repeat' (first
      | (refine Obl.mk ⟨by omega, by omega⟩ ?_; conv => whnf)
      | (refine Obl.mk ⟨by omega, by omega, ⟨by omega, by omega⟩⟩ ?_; conv => whnf)
      | ((with_reducible refine Tst.tt ?_); conv => whnf)
      | ((with_reducible refine Tst.ff ?_); conv => whnf)
      | ((with_reducible refine Tst.dec (fun _ => ?_) (fun _ => ?_)) <;> first | (exfalso; omega) | (conv => whnf))
      | ((with_reducible refine Tst.not ?_))
      | (refine Wit.conv ⟨by omega, by omega⟩ ?_; conv => whnf)
      | ((with_reducible refine IdxV.nat (by omega) ?_); conv => whnf)
      | ((with_reducible refine SameW.mk rfl ?_); conv => whnf)
      | (refine LoadV.mem (i := 0) (by assumption) rfl rfl ?_; conv => whnf)
      | (refine LoadV.mem (i := 1) (by assumption) rfl rfl ?_; conv => whnf)
      | (refine LoadV.mem (i := 2) (by assumption) rfl rfl ?_; conv => whnf)
      | ((with_reducible refine Tst.beqT ?_))
      | ((with_reducible refine Tst.beqF ?_))
      | (refine Tst.yes rfl ?_; conv => whnf)
      | (refine Tst.no rfl ?_; conv => whnf)))
  · exact ⟨by rw [hd, if_pos (by omega)]; rfl, rfl⟩
  · exact ⟨by rw [hd, if_pos (by omega)]; rfl, rfl⟩
  · refine loopV (fun k : Nat => [(0, .string s), (1, .int .i64 p), (6, .int .i64 n), (7, .int .i32 (accR r (t.take (k - 1)))), (8, .int .i64 k)])
      (fun k w1 => 1 ≤ k ∧ k ≤ n ∧ (t.take (k - 1)).all cont = true ∧ w1 = w') (fun k => n - k) 1 ⟨rfl, rfl, rfl, rfl, rfl, trivial⟩ ⟨by omega, by omega, rfl, rfl⟩ ?_
    rintro k w1 ρ' ⟨h1, h2, h3, rfl⟩
    have hacc := accR_lt r (t.take (k - 1))
    have hlen : (t.take (k - 1)).length = k - 1 := by rw [List.length_take]; omega
    rw [hlen] at hacc
    (conv => whnf)
    (repeat' (first
      | (refine Obl.mk ⟨by omega, by omega⟩ ?_; conv => whnf)
      | (refine Obl.mk ⟨by omega, by omega, ⟨by omega, by omega⟩⟩ ?_; conv => whnf)
      | ((with_reducible refine Tst.tt ?_); conv => whnf)
      | ((with_reducible refine Tst.ff ?_); conv => whnf)
      | ((with_reducible refine Tst.dec (fun _ => ?_) (fun _ => ?_)) <;> first | (exfalso; omega) | (conv => whnf))
      | ((with_reducible refine Tst.not ?_))
      | (refine Wit.conv ⟨by omega, by omega⟩ ?_; conv => whnf)
      | ((with_reducible refine IdxV.nat (by omega) ?_); conv => whnf)
      | ((with_reducible refine SameW.mk rfl ?_); conv => whnf)
      | (refine LoadV.mem (i := 0) (by assumption) rfl rfl ?_; conv => whnf)
      | (refine LoadV.mem (i := 1) (by assumption) rfl rfl ?_; conv => whnf)
      | (refine LoadV.mem (i := 2) (by assumption) rfl rfl ?_; conv => whnf)
      | ((with_reducible refine Tst.beqT ?_))
      | ((with_reducible refine Tst.beqF ?_))
      | (refine Tst.yes rfl ?_; conv => whnf)
      | (refine Tst.no rfl ?_; conv => whnf)))
    · refine IdxV.at_ (p + k) (by omega) (by omega) ?_
      (conv => whnf)
      have hc : (gb s (p + k)).toNat < 256 := (gb s (p + k)).toNat_lt
      have hg : t.getD (k - 1) 0 = gb s (p + k) := by rw [ht, drop_getD]; congr 1; omega
      have ht1 : t.take k = t.take (k - 1) ++ [gb s (p + k)] := by
        have := get_take (l := t) (k := k - 1) (by omega)
        rw [hg, show k - 1 + 1 = k from by omega] at this; exact this
      have hacc2 : accR r (t.take (k - 1)) < 524288 := by
        refine Nat.lt_of_lt_of_le hacc (Nat.le_trans (Nat.mul_le_mul (Nat.succ_le_of_lt hb2) (Nat.pow_le_pow_right (by omega) (show k - 1 ≤ 2 by omega))) (by decide))
      refine Wit.eq (y := (((gb s (p + k)).toNat / 64 * 64 : Nat) : Int)) (by rw [← and192 _ hc]; exact bits_and (n := 192) ⟨by omega, by omega⟩ ⟨by decide, by decide⟩) ?_
      (conv => whnf)
      (repeat' (first
      | (refine Obl.mk ⟨by omega, by omega⟩ ?_; conv => whnf)
      | (refine Obl.mk ⟨by omega, by omega, ⟨by omega, by omega⟩⟩ ?_; conv => whnf)
      | ((with_reducible refine Tst.tt ?_); conv => whnf)
      | ((with_reducible refine Tst.ff ?_); conv => whnf)
      | ((with_reducible refine Tst.dec (fun _ => ?_) (fun _ => ?_)) <;> first | (exfalso; omega) | (conv => whnf))
      | ((with_reducible refine Tst.not ?_))
      | (refine Wit.conv ⟨by omega, by omega⟩ ?_; conv => whnf)
      | ((with_reducible refine IdxV.nat (by omega) ?_); conv => whnf)
      | ((with_reducible refine SameW.mk rfl ?_); conv => whnf)
      | (refine LoadV.mem (i := 0) (by assumption) rfl rfl ?_; conv => whnf)
      | (refine LoadV.mem (i := 1) (by assumption) rfl rfl ?_; conv => whnf)
      | (refine LoadV.mem (i := 2) (by assumption) rfl rfl ?_; conv => whnf)
      | ((with_reducible refine Tst.beqT ?_))
      | ((with_reducible refine Tst.beqF ?_))
      | (refine Tst.yes rfl ?_; conv => whnf)
      | (refine Tst.no rfl ?_; conv => whnf)))
      · refine ⟨?_, rfl⟩
        rw [hd, if_neg (by omega), if_neg ?_]
        · rfl
        · rw [Bool.not_eq_true]
          apply List.all_eq_false.2
          refine ⟨gb s (p + k), ?_, ?_⟩
          · have : gb s (p + k) ∈ t.take k := by rw [ht1]; simp
            exact List.mem_of_mem_take (i := k) (by rw [List.take_take, Nat.min_eq_left (by omega)]; exact this)
          · simp [cont]; omega
      · refine Wit.shl ⟨by decide, by decide⟩ (m := 64) (by decide) rfl ⟨by omega, by omega⟩ ?_
        (conv => whnf)
        refine Wit.eq (bits_mod 6 rfl ⟨by omega, by omega⟩ ⟨by omega, by omega⟩) ?_
        (conv => whnf)
        (repeat' (first
      | (refine Obl.mk ⟨by omega, by omega⟩ ?_; conv => whnf)
      | (refine Obl.mk ⟨by omega, by omega, ⟨by omega, by omega⟩⟩ ?_; conv => whnf)
      | ((with_reducible refine Tst.tt ?_); conv => whnf)
      | ((with_reducible refine Tst.ff ?_); conv => whnf)
      | ((with_reducible refine Tst.dec (fun _ => ?_) (fun _ => ?_)) <;> first | (exfalso; omega) | (conv => whnf))
      | ((with_reducible refine Tst.not ?_))
      | (refine Wit.conv ⟨by omega, by omega⟩ ?_; conv => whnf)
      | ((with_reducible refine IdxV.nat (by omega) ?_); conv => whnf)
      | ((with_reducible refine SameW.mk rfl ?_); conv => whnf)
      | (refine LoadV.mem (i := 0) (by assumption) rfl rfl ?_; conv => whnf)
      | (refine LoadV.mem (i := 1) (by assumption) rfl rfl ?_; conv => whnf)
      | (refine LoadV.mem (i := 2) (by assumption) rfl rfl ?_; conv => whnf)
      | ((with_reducible refine Tst.beqT ?_))
      | ((with_reducible refine Tst.beqF ?_))
      | (refine Tst.yes rfl ?_; conv => whnf)
      | (refine Tst.no rfl ?_; conv => whnf)))
        refine Wit.eq (y := ((accR r (t.take k) : Nat) : Int)) ?_ ?_
        · have := bits_add (k := .i32) (a := accR r (t.take (k - 1))) (b := (gb s (p + k)).toNat % 64) 6 ⟨by omega, by omega⟩ (by omega)
          rw [ht1]
          simpa [accR] using this
        (conv => whnf)
        (repeat' (first
      | (refine Obl.mk ⟨by omega, by omega⟩ ?_; conv => whnf)
      | (refine Obl.mk ⟨by omega, by omega, ⟨by omega, by omega⟩⟩ ?_; conv => whnf)
      | ((with_reducible refine Tst.tt ?_); conv => whnf)
      | ((with_reducible refine Tst.ff ?_); conv => whnf)
      | ((with_reducible refine Tst.dec (fun _ => ?_) (fun _ => ?_)) <;> first | (exfalso; omega) | (conv => whnf))
      | ((with_reducible refine Tst.not ?_))
      | (refine Wit.conv ⟨by omega, by omega⟩ ?_; conv => whnf)
      | ((with_reducible refine IdxV.nat (by omega) ?_); conv => whnf)
      | ((with_reducible refine SameW.mk rfl ?_); conv => whnf)
      | (refine LoadV.mem (i := 0) (by assumption) rfl rfl ?_; conv => whnf)
      | (refine LoadV.mem (i := 1) (by assumption) rfl rfl ?_; conv => whnf)
      | (refine LoadV.mem (i := 2) (by assumption) rfl rfl ?_; conv => whnf)
      | ((with_reducible refine Tst.beqT ?_))
      | ((with_reducible refine Tst.beqF ?_))
      | (refine Tst.yes rfl ?_; conv => whnf)
      | (refine Tst.no rfl ?_; conv => whnf)))
        refine ⟨k + 1, ⟨rfl, rfl, rfl, rfl, rfl, trivial⟩, ⟨by omega, by omega, ?_, rfl⟩, by omega⟩
        rw [show k + 1 - 1 = k from by omega, ht1, List.all_append, h3]
        simp [cont]; omega
    · obtain rfl : k = n := by omega
      refine CallV.of (least_any k hb1 _) ?_
      rintro v w' ⟨rfl, rfl⟩
      (conv => whnf)
      (repeat' (first
      | (refine Obl.mk ⟨by omega, by omega⟩ ?_; conv => whnf)
      | (refine Obl.mk ⟨by omega, by omega, ⟨by omega, by omega⟩⟩ ?_; conv => whnf)
      | ((with_reducible refine Tst.tt ?_); conv => whnf)
      | ((with_reducible refine Tst.ff ?_); conv => whnf)
      | ((with_reducible refine Tst.dec (fun _ => ?_) (fun _ => ?_)) <;> first | (exfalso; omega) | (conv => whnf))
      | ((with_reducible refine Tst.not ?_))
      | (refine Wit.conv ⟨by omega, by omega⟩ ?_; conv => whnf)
      | ((with_reducible refine IdxV.nat (by omega) ?_); conv => whnf)
      | ((with_reducible refine SameW.mk rfl ?_); conv => whnf)
      | (refine LoadV.mem (i := 0) (by assumption) rfl rfl ?_; conv => whnf)
      | (refine LoadV.mem (i := 1) (by assumption) rfl rfl ?_; conv => whnf)
      | (refine LoadV.mem (i := 2) (by assumption) rfl rfl ?_; conv => whnf)
      | ((with_reducible refine Tst.beqT ?_))
      | ((with_reducible refine Tst.beqF ?_))
      | (refine Tst.yes rfl ?_; conv => whnf)
      | (refine Tst.no rfl ?_; conv => whnf)))
      · refine ⟨?_, rfl⟩
        rw [hd, if_neg (by omega), if_pos h3, if_pos (.inl (by omega))]; rfl
      · refine CallV.of (scalar_any _ _) ?_
        rintro v w' ⟨rfl, rfl⟩
        (conv => whnf)
        cases hsc : scalarB (accR r (t.take (k - 1)))
        · (conv => whnf)
          (repeat' (first
      | (refine Obl.mk ⟨by omega, by omega⟩ ?_; conv => whnf)
      | (refine Obl.mk ⟨by omega, by omega, ⟨by omega, by omega⟩⟩ ?_; conv => whnf)
      | ((with_reducible refine Tst.tt ?_); conv => whnf)
      | ((with_reducible refine Tst.ff ?_); conv => whnf)
      | ((with_reducible refine Tst.dec (fun _ => ?_) (fun _ => ?_)) <;> first | (exfalso; omega) | (conv => whnf))
      | ((with_reducible refine Tst.not ?_))
      | (refine Wit.conv ⟨by omega, by omega⟩ ?_; conv => whnf)
      | ((with_reducible refine IdxV.nat (by omega) ?_); conv => whnf)
      | ((with_reducible refine SameW.mk rfl ?_); conv => whnf)
      | (refine LoadV.mem (i := 0) (by assumption) rfl rfl ?_; conv => whnf)
      | (refine LoadV.mem (i := 1) (by assumption) rfl rfl ?_; conv => whnf)
      | (refine LoadV.mem (i := 2) (by assumption) rfl rfl ?_; conv => whnf)
      | ((with_reducible refine Tst.beqT ?_))
      | ((with_reducible refine Tst.beqF ?_))
      | (refine Tst.yes rfl ?_; conv => whnf)
      | (refine Tst.no rfl ?_; conv => whnf)))
          refine ⟨?_, rfl⟩
          rw [hd, if_neg (by omega), if_pos h3, if_pos (.inr hsc)]; rfl
        · (conv => whnf)
          (repeat' (first
      | (refine Obl.mk ⟨by omega, by omega⟩ ?_; conv => whnf)
      | (refine Obl.mk ⟨by omega, by omega, ⟨by omega, by omega⟩⟩ ?_; conv => whnf)
      | ((with_reducible refine Tst.tt ?_); conv => whnf)
      | ((with_reducible refine Tst.ff ?_); conv => whnf)
      | ((with_reducible refine Tst.dec (fun _ => ?_) (fun _ => ?_)) <;> first | (exfalso; omega) | (conv => whnf))
      | ((with_reducible refine Tst.not ?_))
      | (refine Wit.conv ⟨by omega, by omega⟩ ?_; conv => whnf)
      | ((with_reducible refine IdxV.nat (by omega) ?_); conv => whnf)
      | ((with_reducible refine SameW.mk rfl ?_); conv => whnf)
      | (refine LoadV.mem (i := 0) (by assumption) rfl rfl ?_; conv => whnf)
      | (refine LoadV.mem (i := 1) (by assumption) rfl rfl ?_; conv => whnf)
      | (refine LoadV.mem (i := 2) (by assumption) rfl rfl ?_; conv => whnf)
      | ((with_reducible refine Tst.beqT ?_))
      | ((with_reducible refine Tst.beqF ?_))
      | (refine Tst.yes rfl ?_; conv => whnf)
      | (refine Tst.no rfl ?_; conv => whnf)))
          refine ⟨?_, rfl⟩
          rw [hd, if_neg (by omega), if_pos h3, if_neg (by rw [hsc]; simp; omega)]


/-- A whole text's scalars; none: it is no UTF-8. -/
def scal (l : List UInt8) : Option (List Nat) :=
  match l with
  | [] => some []
  | b :: t => if _h : (decN (b :: t)).2 = 0 then none else (scal ((b :: t).drop (decN (b :: t)).2)).map ((decN (b :: t)).1 :: ·)
termination_by l.length
decreasing_by simp [List.length_drop]; omega

theorem decN_le (l : List UInt8) : (decN l).2 ≤ l.length := by
  unfold decN
  split
  · simp
  · rename_i b t
    have := leadI_le b.toNat b.toNat_lt
    simp only
    split
    · simp
    · split
      · split <;> simp; omega
      · simp
theorem decN_le4 (l : List UInt8) : (decN l).2 ≤ 4 := by
  unfold decN
  split
  · simp
  · rename_i b t
    have := leadI_le b.toNat b.toNat_lt
    simp only
    split
    · simp
    · split
      · split <;> simp; omega
      · simp
theorem scal_none {l : List UInt8} (h : l ≠ []) (h0 : (decN l).2 = 0) : scal l = none := by
  match l, h with
  | a :: t, _ => rw [scal, dif_pos h0]
theorem scal_step {l : List UInt8} (h : l ≠ []) (h0 : (decN l).2 ≠ 0) : scal l = (scal (l.drop (decN l).2)).map ((decN l).1 :: ·) := by
  match l, h with
  | a :: t, _ => rw [scal, dif_neg h0]
theorem drop_ne (s : ByteArray) (p : Nat) (h : p < s.size) : s.data.toList.drop p ≠ [] := by
  rw [drop_get s p h]; simp

/-- utf.Check: -1, or a place that is none of -1. -/
theorem check_any (s : ByteArray) (hs : s.size ≤ 140737488355328) (w : World) :
    Gv Tryz.prog 147 [.string s] w fun v w' => (∃ i : Int, v = .int .i64 i ∧ i < 4611686018427387904 ∧ (scal s.data.toList ≠ none → i = -1) ∧ (scal s.data.toList = none → 0 ≤ i)) ∧ w' = w := by
  refine gv (by kernel_rfl) Tryz.func147 rfl Tryz.ntmps147 rfl ?_; conv => whnf
  refine loopV (fun p : Nat => [(0, .string s), (3, .int .i64 p)]) (fun p w1 => p ≤ s.size ∧ (scal s.data.toList = none ↔ scal (s.data.toList.drop p) = none) ∧ w1 = w) (fun p => s.size - p) 0 ⟨rfl, rfl, trivial⟩ ⟨by omega, by simp, rfl⟩ ?_
  rintro p w1 ρ' ⟨h1, h2, rfl⟩
  (conv => whnf)
  (repeat' (first
      | (refine Obl.mk ⟨by omega, by omega⟩ ?_; conv => whnf)
      | (refine Obl.mk ⟨by omega, by omega, ⟨by omega, by omega⟩⟩ ?_; conv => whnf)
      | ((with_reducible refine Tst.tt ?_); conv => whnf)
      | ((with_reducible refine Tst.ff ?_); conv => whnf)
      | ((with_reducible refine Tst.dec (fun _ => ?_) (fun _ => ?_)) <;> first | (exfalso; omega) | (conv => whnf))
      | ((with_reducible refine Tst.not ?_))
      | (refine Wit.conv ⟨by omega, by omega⟩ ?_; conv => whnf)
      | ((with_reducible refine IdxV.nat (by omega) ?_); conv => whnf)
      | ((with_reducible refine SameW.mk rfl ?_); conv => whnf)
      | (refine LoadV.mem (i := 0) (by assumption) rfl rfl ?_; conv => whnf)
      | (refine LoadV.mem (i := 1) (by assumption) rfl rfl ?_; conv => whnf)
      | (refine LoadV.mem (i := 2) (by assumption) rfl rfl ?_; conv => whnf)
      | ((with_reducible refine Tst.beqT ?_))
      | ((with_reducible refine Tst.beqF ?_))
      | (refine Tst.yes rfl ?_; conv => whnf)
      | (refine Tst.no rfl ?_; conv => whnf)))
  · refine CallV.of (next_any s p (by omega) hs _) ?_
    rintro v w' ⟨rfl, rfl⟩
    have hle := decN_le (s.data.toList.drop p)
    rw [drop_len] at hle
    (conv => whnf)
    (repeat' (first
      | (refine Obl.mk ⟨by omega, by omega⟩ ?_; conv => whnf)
      | (refine Obl.mk ⟨by omega, by omega, ⟨by omega, by omega⟩⟩ ?_; conv => whnf)
      | ((with_reducible refine Tst.tt ?_); conv => whnf)
      | ((with_reducible refine Tst.ff ?_); conv => whnf)
      | ((with_reducible refine Tst.dec (fun _ => ?_) (fun _ => ?_)) <;> first | (exfalso; omega) | (conv => whnf))
      | ((with_reducible refine Tst.not ?_))
      | (refine Wit.conv ⟨by omega, by omega⟩ ?_; conv => whnf)
      | ((with_reducible refine IdxV.nat (by omega) ?_); conv => whnf)
      | ((with_reducible refine SameW.mk rfl ?_); conv => whnf)
      | (refine LoadV.mem (i := 0) (by assumption) rfl rfl ?_; conv => whnf)
      | (refine LoadV.mem (i := 1) (by assumption) rfl rfl ?_; conv => whnf)
      | (refine LoadV.mem (i := 2) (by assumption) rfl rfl ?_; conv => whnf)
      | ((with_reducible refine Tst.beqT ?_))
      | ((with_reducible refine Tst.beqF ?_))
      | (refine Tst.yes rfl ?_; conv => whnf)
      | (refine Tst.no rfl ?_; conv => whnf)))
    · refine ⟨⟨p, rfl, by omega, fun h => ?_, fun _ => by omega⟩, rfl⟩
      exact absurd (h2.2 (scal_none (drop_ne s p (by omega)) (by omega))) h
    · refine ⟨p + (decN (s.data.toList.drop p)).2, ⟨rfl, rfl, trivial⟩, ⟨by omega, ?_, rfl⟩, by omega⟩
      rw [h2, scal_step (drop_ne s p (by omega)) (by omega), List.drop_drop]
      simp
  · refine ⟨⟨-1, rfl, by omega, fun _ => rfl, fun h => ?_⟩, rfl⟩
    rw [h2, List.drop_eq_nil_of_le (by simp; omega)] at h
    rw [scal] at h; cases h
end Go.Proofs.YtajgbepghniciaaGreatDoor
