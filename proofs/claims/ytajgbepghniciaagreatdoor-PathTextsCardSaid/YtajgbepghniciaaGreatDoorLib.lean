/- Small plain lemmas used by the walks. -/
import Derived.Test.YtajgbepghniciaaGreatDoorProg
import Derived.WalkKit
import Derived.WalkSpells
import Derived.StillTactics
import Derived.Lib.Hide
import Derived.IntWalk
namespace Go.Proofs.YtajgbepghniciaaGreatDoor
open Go.RowKit

theorem ret_i {k : IntKind} {a b : Int} (h : a = b) : Ending.returned (.int k a) = Ending.returned (.int k b) := by rw [h]
theorem ret_b {a b : Bool} (h : a = b) : Ending.returned (.bool a) = Ending.returned (.bool b) := by rw [h]
theorem ret_s {a b : ByteArray} (h : a = b) : Ending.returned (.string a) = Ending.returned (.string b) := by rw [h]
theorem ret_ii {k j : IntKind} {a b c d : Int} (h : a = b) (h' : c = d) : Ending.returned (.tuple #[.int k a, .int j c]) = Ending.returned (.tuple #[.int k b, .int j d]) := by rw [h, h']
theorem ret_si {j : IntKind} {a b : ByteArray} {c d : Int} (h : a = b) (h' : c = d) : Ending.returned (.tuple #[.string a, .int j c]) = Ending.returned (.tuple #[.string b, .int j d]) := by rw [h, h']

theorem get_drop (s : ByteArray) (p : Nat) (h : p < s.size) : s.data.toList.drop p = s[p] :: s.data.toList.drop (p + 1) := by
  rw [List.drop_eq_getElem_cons (by simpa using h)]; rfl
theorem len_bytes (s : ByteArray) : s.data.toList.length = s.size := rfl

end Go.Proofs.YtajgbepghniciaaGreatDoor
