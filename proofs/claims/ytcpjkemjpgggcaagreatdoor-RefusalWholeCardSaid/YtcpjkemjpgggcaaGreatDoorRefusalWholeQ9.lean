/- Texts packed for one claim, 9 of 45: RWrite. -/
import Derived.Test.YtcpjkemjpgggcaaGreatDoorRefusalWholeQ2
import Derived.IntWalk
import Derived.Test.YtcpjkemjpgggcaaGreatDoorRefusalWholeQ8
set_option linter.unusedSimpArgs false
set_option linter.unusedVariables false
-- RWrite
namespace Go.Proofs.YtcpjkemjpgggcaaGreatDoor
open Go.RowKit Civ
/-- The weekdays' names. -/
def dayB : Nat → ByteArray
  | 0 => ⟨#[83, 117, 110, 100, 97, 121]⟩
  | 1 => ⟨#[77, 111, 110, 100, 97, 121]⟩
  | 2 => ⟨#[84, 117, 101, 115, 100, 97, 121]⟩
  | 3 => ⟨#[87, 101, 100, 110, 101, 115, 100, 97, 121]⟩
  | 4 => ⟨#[84, 104, 117, 114, 115, 100, 97, 121]⟩
  | 5 => ⟨#[70, 114, 105, 100, 97, 121]⟩
  | _ => ⟨#[83, 97, 116, 117, 114, 100, 97, 121]⟩
/-- The months' names, from 0. -/
def monB : Nat → ByteArray
  | 0 => ⟨#[74, 97, 110]⟩
  | 1 => ⟨#[70, 101, 98]⟩
  | 2 => ⟨#[77, 97, 114]⟩
  | 3 => ⟨#[65, 112, 114]⟩
  | 4 => ⟨#[77, 97, 121]⟩
  | 5 => ⟨#[74, 117, 110]⟩
  | 6 => ⟨#[74, 117, 108]⟩
  | 7 => ⟨#[65, 117, 103]⟩
  | 8 => ⟨#[83, 101, 112]⟩
  | 9 => ⟨#[79, 99, 116]⟩
  | 10 => ⟨#[78, 111, 118]⟩
  | _ => ⟨#[68, 101, 99]⟩
def dayRow : Array Value := #[.string ⟨#[83, 117, 110, 100, 97, 121]⟩, .string ⟨#[77, 111, 110, 100, 97, 121]⟩, .string ⟨#[84, 117, 101, 115, 100, 97, 121]⟩, .string ⟨#[87, 101, 100, 110, 101, 115, 100, 97, 121]⟩, .string ⟨#[84, 104, 117, 114, 115, 100, 97, 121]⟩, .string ⟨#[70, 114, 105, 100, 97, 121]⟩, .string ⟨#[83, 97, 116, 117, 114, 100, 97, 121]⟩]
def monRow : Array Value := #[.string ⟨#[74, 97, 110]⟩, .string ⟨#[70, 101, 98]⟩, .string ⟨#[77, 97, 114]⟩, .string ⟨#[65, 112, 114]⟩, .string ⟨#[77, 97, 121]⟩, .string ⟨#[74, 117, 110]⟩, .string ⟨#[74, 117, 108]⟩, .string ⟨#[65, 117, 103]⟩, .string ⟨#[83, 101, 112]⟩, .string ⟨#[79, 99, 116]⟩, .string ⟨#[78, 111, 118]⟩, .string ⟨#[68, 101, 99]⟩]
theorem dayRow_at {k : Nat} (h : k ≤ 6) : dayRow[k]? = some (.string (dayB k)) := by
  obtain rfl | rfl | rfl | rfl | rfl | rfl | rfl : k = 0 ∨ k = 1 ∨ k = 2 ∨ k = 3 ∨ k = 4 ∨ k = 5 ∨ k = 6 := by omega
  all_goals rfl
theorem monRow_at {k : Nat} (h : k ≤ 11) : monRow[k]? = some (.string (monB k)) := by
  obtain rfl | rfl | rfl | rfl | rfl | rfl | rfl | rfl | rfl | rfl | rfl | rfl : k = 0 ∨ k = 1 ∨ k = 2 ∨ k = 3 ∨ k = 4 ∨ k = 5 ∨ k = 6 ∨ k = 7 ∨ k = 8 ∨ k = 9 ∨ k = 10 ∨ k = 11 := by omega
  all_goals rfl
theorem dayB_size {k : Nat} (h : k ≤ 6) : 3 ≤ (dayB k).size ∧ (dayB k).size ≤ 9 := by
  obtain rfl | rfl | rfl | rfl | rfl | rfl | rfl : k = 0 ∨ k = 1 ∨ k = 2 ∨ k = 3 ∨ k = 4 ∨ k = 5 ∨ k = 6 := by omega
  all_goals decide
theorem monB_size {k : Nat} (h : k ≤ 11) : (monB k).size ≤ 3 := by
  obtain rfl | rfl | rfl | rfl | rfl | rfl | rfl | rfl | rfl | rfl | rfl | rfl : k = 0 ∨ k = 1 ∨ k = 2 ∨ k = 3 ∨ k = 4 ∨ k = 5 ∨ k = 6 ∨ k = 7 ∨ k = 8 ∨ k = 9 ∨ k = 10 ∨ k = 11 := by omega
  all_goals decide
/-- A date's text, its weekday k, its month j + 1. -/
def dateB (k j : Nat) (y d r : Int) : ByteArray := ((((((((((dayB k).extract 0 3 ++ ⟨#[44, 32]⟩) ++ padB d 2) ++ ⟨#[32]⟩) ++ monB j) ++ ⟨#[32]⟩) ++ padB y 4) ++ ⟨#[32]⟩) ++ clockB r) ++ ⟨#[32, 71, 77, 84]⟩)
theorem clockB_size (r : Int) (hr : 0 ≤ r) (hr2 : r < 86400) : (clockB r).size ≤ 272 := by
  have h1 := pad_size (r / 3600) 2 (by omega) (by omega)
  have h2 := pad_size (r / 60 % 60) 2 (by omega) (by omega)
  have h3 := pad_size (r % 60) 2 (by omega) (by omega)
  unfold clockB
  rw [ByteArray.size_append, ByteArray.size_append, ByteArray.size_append, ByteArray.size_append]
  have : (⟨#[58]⟩ : ByteArray).size = 1 := rfl
  omega
/-- What holds between the region's operations: the date's block, what lay before; the weekdays' row; the months' row. -/
structure DateS (w : World) (C : Array Value) (v : World) : Prop where
  d : Blk v w.heap.size C 128
  u : Below w.heap.size w v
theorem DateS.alloc {w v : World} {C : Array Value} (h : DateS w C v) (o : Obj) : DateS w C (v.alloc o) := ⟨h.d.alloc o, h.u.alloc h.u.size o⟩
theorem DateS.below {w v v' : World} {C : Array Value} (h : DateS w C v) (b : Below v.heap.size v v') : DateS w C v' := ⟨h.d.call b, h.u.trans (b.mono h.u.size)⟩
structure DateS1 (w : World) (C : Array Value) (g : Nat) (v : World) : Prop where
  s : DateS w C v
  b : Blk v g dayRow 9
theorem DateS1.alloc {w v : World} {C : Array Value} {g : Nat} (h : DateS1 w C g v) (o : Obj) : DateS1 w C g (v.alloc o) := ⟨h.s.alloc o, h.b.alloc o⟩
theorem DateS1.below {w v v' : World} {C : Array Value} {g : Nat} (h : DateS1 w C g v) (b : Below v.heap.size v v') : DateS1 w C g v' := ⟨h.s.below b, h.b.call b⟩
structure DateS2 (w : World) (C : Array Value) (g g2 : Nat) (v : World) : Prop where
  s : DateS1 w C g v
  b : Blk v g2 monRow 9
end Go.Proofs.YtcpjkemjpgggcaaGreatDoor
