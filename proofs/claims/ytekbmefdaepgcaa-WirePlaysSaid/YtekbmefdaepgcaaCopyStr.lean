/- The built-in copy from a string into a row of bytes that is known whole: the law for the walk. -/
import Derived.Test.YtekbmefdaepgcaaBase
import Derived.Test.YtekbmefdaepgcaaQueuePlain
import Derived.Lib.BufferWrite
namespace Go.Proofs.Ytekbmefdaepgcaa
open Go.RowKit
/-- The cells of bytes. -/
def bys (l : List UInt8) : Array Value := (Lib.byteCells l).toArray
theorem bys_size (l : List UInt8) : (bys l).size = l.length := by simp [bys, Lib.byteCells_length]
theorem bys_get (l : List UInt8) (i : Nat) : (bys l)[i]? = (l[i]?).map fun b => Value.int .u8 b.toNat := by simp [bys, Lib.byteCells]
theorem run_copy_str {P : Program} (w : World) (dT sT ty elem : TypeId) (g o dLen dCap : Nat) (s : ByteArray) (R : List UInt8) (t : TypeId)
    (hu : P.underlying dT = some (.slice elem)) (hs : (P.info? elem).map (·.size) = some 1) (hg : Blk w g (bys R) t) (hfit : o + dLen ≤ R.length) :
    (Builtin.copy_ #[dT, sT] ty #[.slice (some ⟨g, o, none⟩) dLen dCap, .string s]).run P w =
      .ok (goInt (min s.size dLen)) (w.setRow g (bys (Ring.over R o (s.data.toList.take dLen)))) := by
  have hlen : (Lib.byteCells (s.data.toList.take (min s.size dLen))).length = min s.size dLen := by rw [Lib.byteCells_length, List.length_take, ← Lib.size_eq]; omega
  have hst := run_storeCells_at P g o t (Lib.byteCells (s.data.toList.take (min s.size dLen))) 0 (bys R) w hg (by rw [hlen, bys_size]; omega) (Lib.byteCells_one _)
  have htk : List.take (min s.size dLen) (List.map (fun b : UInt8 => Value.int IntKind.u8 (b.toNat : Int)) s.data.toList) = Lib.byteCells (s.data.toList.take (min s.size dLen)) := by
    rw [← List.map_take]; rfl
  have htake : s.data.toList.take (min s.size dLen) = s.data.toList.take dLen := by
    rw [List.take_eq_take_iff, ← Lib.size_eq]; omega
  rw [hlen] at hst
  simp only [Nat.add_zero] at hst
  have hrow : ((bys R).toList.take o ++ Lib.byteCells (s.data.toList.take (min s.size dLen)) ++ (bys R).toList.drop (o + min s.size dLen)).toArray = bys (Ring.over R o (s.data.toList.take dLen)) := by
    have hl2 : (s.data.toList.take dLen).length = min s.size dLen := by rw [List.length_take, ← Lib.size_eq]; omega
    rw [htake]
    simp [bys, Lib.byteCells, Ring.over, hl2, List.map_take, List.map_drop]
  cases hq : P.info? elem with
  | none => simp [hq] at hs
  | some i =>
    simp [hq] at hs
    simp [Builtin.copy_, run_underlying hu, Builtin.lenOf, Builtin.firstCells, sizeOf, typeInfo, hq, hs]
    rw [show Nat.min s.size dLen = min s.size dLen from rfl, htk, hst, hrow]
    simp [Result.andThen]
    rw [show ((min s.size dLen : Nat) : Int) = min (s.size : Int) (dLen : Int) from by omega]

theorem wpList_copy_str {P : Program} {w : World} {ops : Array Oper} {rest : List Oper} {o : Oper} {a : Act} {Q : Exit → Act → World → Prop} (hgd : o.guard = none) (d s : Operand) (dT sT : TypeId)
    (ho : o.op = .call { callee := .builtin .copy, args := #[d, s], argTypes := #[dT, sT] }) (elem : TypeId) (hu : P.underlying dT = some (.slice elem)) (hsz : (P.info? elem).map (·.size) = some 1)
    (g off dLen dCap : Nat) (hd : a.eval d = .slice (some ⟨g, off, none⟩) dLen dCap) (str : ByteArray) (hs : a.eval s = .string str)
    (R : List UInt8) (t : TypeId) (hg : Blk w g (bys R) t) (hfit : off + dLen ≤ R.length) (z : Nat) (hz : z = min str.size dLen)
    (h : ∀ w', Blk w' g (bys (Ring.over R off (str.data.toList.take dLen))) t → Touch (fun k => k = g) w w' → wpList P ops Q rest (a.put o.dst (.int .i64 z)) w') : wpList P ops Q (o :: rest) a w := by
  refine wpList_plain hgd fun K hK => ?_
  have hrun := run_copy_str (P := P) w dT sT o.type elem g off dLen dCap str R t hu hsz hg hfit
  unfold Oper.wp
  simp [execOp, ho, resolve, invoke, builtin, hd, hs, hrun, Result.andThen]
  refine hK _ _ ?_
  have := h _ (hg.row _) (Touch.setRow (P := fun k => k = g) (Touch.refl _ w) rfl _)
  rw [hz, show ((min str.size dLen : Nat) : Int) = min (str.size : Int) (dLen : Int) from by omega] at this
  simpa [goInt] using this
theorem step_copy_str {P : Program} {ops : Array Oper} {o : Oper} {a : Act} {w : World} {K : Act → World → Prop} {Q : Exit → Act → World → Prop} {E : Prop} (hgd : o.guard = none) (d s : Operand) (dT sT : TypeId)
    (ho : o.op = .call { callee := .builtin .copy, args := #[d, s], argTypes := #[dT, sT] }) (elem : TypeId) (hu : P.underlying dT = some (.slice elem)) (hsz : (P.info? elem).map (·.size) = some 1)
    (g off dLen dCap : Nat) (hd : a.eval d = .slice (some ⟨g, off, none⟩) dLen dCap) (str : ByteArray) (hs : a.eval s = .string str)
    (R : List UInt8) (t : TypeId) (hg : Blk w g (bys R) t) (hfit : off + dLen ≤ R.length) (z : Nat) (hz : z = min str.size dLen)
    (h : ∀ w', Blk w' g (bys (Ring.over R off (str.data.toList.take dLen))) t → Touch (fun k => k = g) w w' → K (a.put o.dst (.int .i64 z)) w') :
    if Region.wanted o (yielded ops a.tmps) = true then Oper.wp P o a w K Q else E := by
  have hw : Region.wanted o (yielded ops a.tmps) = true := by simp [Region.wanted, hgd]
  rw [if_pos hw]
  have hrun := run_copy_str (P := P) w dT sT o.type elem g off dLen dCap str R t hu hsz hg hfit
  unfold Oper.wp
  simp [execOp, ho, resolve, invoke, builtin, hd, hs, hrun, Result.andThen]
  have := h _ (hg.row _) (Touch.setRow (P := fun k => k = g) (Touch.refl _ w) rfl _)
  rw [hz, show ((min str.size dLen : Nat) : Int) = min (str.size : Int) (dLen : Int) from by omega] at this
  exact this
end Go.Proofs.Ytekbmefdaepgcaa
