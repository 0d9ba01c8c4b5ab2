/- Layer 15: the reference's Request: what it answers for every text of at most 1000 octets. -/
import Derived.Test.YtcgjpkkhebpdfaaDoorReqPlain
import Derived.Test.YtcgjpkkhebpdfaaDoorNumberW
set_option linter.unusedSimpArgs false
set_option linter.unusedVariables false
namespace Go.Proofs.YtcgjpkkhebpdfaaDoor
open Go.RowKit
theorem int_info : (Tryd.prog.info? 3).map (fun i => (i.zero, i.size, i.bytes)) = some (some (.int .i64 0), 1, 8) := by kernel_rfl
theorem wp_region_drewZ {P : Program} {id : Nat} {Q : Exit → Act → World → Prop} {a : Act} {w : World} {l : List Oper} (hm : P.follows .mixedOrders = true) (hB : Region.lexB .any l.toArray = true)
    (h : wpQuiet P l.toArray (fun w' => ∃ n, w' = w.drewN n) (fun a' => ∀ w', (∃ n, w' = w.drewN n) → Q .normal a' w') l a) : (Code.region id l.toArray true).wp P Q a w :=
  wp_region_quiet (C := fun w' => ∃ n, w' = w.drewN n) hm hB ⟨1, rfl⟩ (by simpa using h)
def hdZ : Array Value := #[.string ⟨#[]⟩, .string ⟨#[]⟩, .int .i64 0, .int .i64 0, .string ⟨#[]⟩, .slice none 0 0]
/-- A head written into a block. -/
def hdW (w : World) (g : Nat) (m t : ByteArray) (k n : Int) (r : ByteArray) : World := (((((w.setCell ⟨g, 0, none⟩ (.string m)).setCell ⟨g, 1, none⟩ (.string t)).setCell ⟨g, 2, none⟩ (.int .i64 k)).setCell ⟨g, 3, none⟩ (.int .i64 n)).setCell ⟨g, 4, none⟩ (.string r)).setCell ⟨g, 5, none⟩ (.slice none 0 0)
theorem hdW_blk {w : World} {g : Nat} {ty : TypeId} {a b c d e f : Value} (h : Blk w g #[a, b, c, d, e, f] ty) (m t : ByteArray) (k n : Int) (r : ByteArray) : Blk (hdW w g m t k n r) g #[.string m, .string t, .int .i64 k, .int .i64 n, .string r, .slice none 0 0] ty :=
  (((((h.set 0 (.string m)).set 1 (.string t)).set 2 (.int .i64 k)).set 3 (.int .i64 n)).set 4 (.string r)).set 5 (.slice none 0 0)
theorem hdW_below {w : World} {g B : Nat} {w0 : World} (h : Below B w0 w) (hg : B ≤ g) (m t : ByteArray) (k n : Int) (r : ByteArray) : Below B w0 (hdW w g m t k n r) :=
  (((((h.setCell hg _).setCell hg _).setCell hg _).setCell hg _).setCell hg _).setCell hg _
def posV (l : List UInt8) : List Value := (posL 32 0 l).map fun p : Nat => Value.int .i64 (p : Int)
theorem posV_length (l : List UInt8) : (posV l).length = (posL 32 0 l).length := by unfold posV; simp
theorem posV_hit (s : ByteArray) (k : Nat) (h : k < s.size) (hb : s[k] = 32) : posV (s.data.toList.take (k + 1)) = posV (s.data.toList.take k) ++ [.int .i64 (k : Int)] := by
  unfold posV
  rw [take_snoc s k h, posL_append, List.map_append, hb]
  rw [show (s.data.toList.take k).length = k by simp; omega, Nat.zero_add, posL_cons_eq]
  rfl
theorem posV_miss (s : ByteArray) (k : Nat) (h : k < s.size) (hb : s[k] ≠ 32) : posV (s.data.toList.take (k + 1)) = posV (s.data.toList.take k) := by
  unfold posV
  rw [take_snoc s k h, posL_append, List.map_append, posL_cons_ne hb]
  simp [posL]
theorem posV_le (l : List UInt8) : (posV l).length ≤ l.length := by rw [posV_length, posL_length]; exact List.count_le_length
theorem grown_blk {w w' : World} {row : Option Nat} {g : Nat} {cs : Array Value} {t : TypeId} (h : Blk w g cs t) (hg : w.grownBy w' row) (hne : some g ≠ row) : Blk w' g cs t := (hg.block g h.lt hne).trans h
theorem byte_of (s : ByteArray) (k : Nat) (h : k < s.size) (hb : bt s k = 32) : s[k] = 32 := by
  rw [bt_get s k h] at hb
  apply UInt8.toNat_inj.1
  have : (32 : UInt8).toNat = 32 := rfl
  omega
theorem byte_of_ne (s : ByteArray) (k : Nat) (h : k < s.size) (hb : bt s k ≠ 32) : s[k] ≠ 32 := by
  intro e
  apply hb
  rw [bt_get s k h, e]; rfl
theorem reqRes_form {s : ByteArray} (h : (posL 32 0 s.data.toList).length ≠ 2) : reqRes s = ((⟨#[]⟩, ⟨#[]⟩, 0), 3) := by
  unfold reqRes
  split
  · rename_i a b e; rw [e] at h; exact absurd rfl h
  · rfl
theorem reqRes_two {s : ByteArray} {a b : Nat} (h : posL 32 0 s.data.toList = [a, b]) : reqRes s =
    if tokL (s.extract 0 a).data.toList = false then ((⟨#[]⟩, ⟨#[]⟩, 0), 6)
    else if visL (s.extract (a + 1) b).data.toList = false then ((⟨#[]⟩, ⟨#[]⟩, 0), 11)
    else if (vminor (s.extract (b + 1) s.size)).2 ≠ 0 then ((⟨#[]⟩, ⟨#[]⟩, 0), (vminor (s.extract (b + 1) s.size)).2)
    else ((s.extract 0 a, s.extract (a + 1) b, (vminor (s.extract (b + 1) s.size)).1), 0) := by
  unfold reqRes; rw [h]
end Go.Proofs.YtcgjpkkhebpdfaaDoor
