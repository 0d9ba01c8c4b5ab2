/- Texts packed for one claim, 18 of 49: HeadP HParse. -/
import Derived.Test.YtbglakhojbhfbaaGreatDoorEncodeBackQ16
import Derived.Test.YtbglakhojbhfbaaGreatDoorEncodeBackQ17
import Derived.Test.YtbglakhojbhfbaaGreatDoorEncodeBackQ2
import Derived.Test.YtbglakhojbhfbaaGreatDoorEncodeBackQ8
set_option linter.unusedSimpArgs false
set_option linter.unusedVariables false
-- HeadP
namespace Go.Proofs.YtbglakhojbhfbaaGreatDoor
open Go.RowKit
/-- A head. -/
structure Hd where
  m : ByteArray
  t : ByteArray
  k : Int
  n : Int
  r : ByteArray
  fs : List Fd
def hd0 : Hd := ⟨⟨#[]⟩, ⟨#[]⟩, 0, 0, ⟨#[]⟩, []⟩
/-- A head's six values, its fields' slice at hand. -/
def Hd.row (h : Hd) (f : Value) : Array Value := #[.string h.m, .string h.t, .int .i64 h.k, .int .i64 h.n, .string h.r, f]
def nilS : Value := .slice none 0 0
/-- What a first line is. -/
def firstP (kind : Int) (s : ByteArray) : Hd × Int :=
  if kind = 1 then (⟨(reqRes s).1.1, (reqRes s).1.2.1, (reqRes s).1.2.2, 0, ⟨#[]⟩, []⟩, (reqRes s).2) else (⟨⟨#[]⟩, ⟨#[]⟩, (statRes s).1.1, (statRes s).1.2.1, (statRes s).1.2.2, []⟩, (statRes s).2)
theorem firstP_fs (kind : Int) (s : ByteArray) : (firstP kind s).1.fs = [] := by unfold firstP; split <;> rfl
/-- What Parse answers. -/
def headP (kind fields fold : Int) (l : List ByteArray) : Hd × Int :=
  if kind ≠ 1 ∧ kind ≠ 2 then (hd0, 1) else match l with
  | [] => (hd0, 2)
  | s :: rest => if (firstP kind s).2 ≠ 0 then (hd0, (firstP kind s).2) else if fields < (rest.length : Int) then (hd0, 4)
    else if (allF fold rest).2 ≠ 0 then (hd0, (allF fold rest).2) else ({ (firstP kind s).1 with fs := (allF fold rest).1 }, 0)
/-- A slice that is none longer than it may be. -/
def CapOk : Value → Prop
  | .slice _ n c => n ≤ c
  | _ => True
theorem Strs.tail {w : World} {b off m c : Nat} {s : ByteArray} {rest : List ByteArray} (h : Strs w (.slice (some ⟨b, off, none⟩) (m + 1) c) (s :: rest)) : m = rest.length ∧ w.cell? ⟨b, off, none⟩ = some (.string s) ∧ (∀ c', Strs w (.slice (some ⟨b, off + 1, none⟩) m c') rest) ∧ (m = 0 → ∀ p c', Strs w (.slice p 0 c') rest) := by
  obtain ⟨p, c', hv, hc⟩ := h
  have hm : m = rest.length := by
    injection hv with _ h2 _
    simpa using h2
  injection hv with hp _ _
  refine ⟨hm, ?_, fun c2 => ⟨_, c2, by rw [hm], fun i hi => ?_⟩, fun h0 p c2 => ?_⟩
  · obtain ⟨b', off', hp', h1⟩ := hc 0 (by simp)
    rw [← hp] at hp'
    cases hp'
    exact h1
  · obtain ⟨b', off', hp', h1⟩ := hc (i + 1) (by simpa using hi)
    rw [← hp] at hp'
    cases hp'
    exact ⟨b, off + 1, rfl, by rw [Nat.add_assoc, Nat.add_comm 1 i]; exact h1⟩
  · have : rest = [] := List.eq_nil_of_length_eq_zero (by omega)
    subst this
    exact Strs.nil _ _ _
end Go.Proofs.YtbglakhojbhfbaaGreatDoor
-- HParse
namespace Go.Proofs.YtbglakhojbhfbaaGreatDoor
open Go.RowKit
theorem blk_al2 (w : World) (L Z : Array Value) (t t' : TypeId) : Blk ((w.alloc (.cells L t)).alloc (.cells Z t')) (w.heap.size + 1) Z t' := Blk.new' (by simp)
theorem below_al2 (w : World) (o o' : Obj) : Below w.heap.size w ((w.alloc o).alloc o') := ((Below.refl _ _).alloc (Nat.le_refl _) _).alloc (by simp) _
/-- What holds behind the first line: the limits' block, the result's, the head's. -/
structure HpS (w : World) (L R : Array Value) (g : Nat) (v : World) : Prop where
  l : Blk v w.heap.size L 38
  z : Blk v (w.heap.size + 1) #[.string ⟨#[]⟩, .string ⟨#[]⟩, .int .i64 0, .int .i64 0, .string ⟨#[]⟩, .slice none 0 0] 27
  h : Blk v g R 27
  u : Below w.heap.size w v
  lt : w.heap.size + 1 < g
theorem HpS.below {w v v' : World} {L R : Array Value} {g : Nat} (h : HpS w L R g v) (b : Below v.heap.size v v') : HpS w L R g v' := ⟨h.l.call b, h.z.call b, h.h.call b, h.u.trans (b.mono h.u.size), h.lt⟩
end Go.Proofs.YtbglakhojbhfbaaGreatDoor
