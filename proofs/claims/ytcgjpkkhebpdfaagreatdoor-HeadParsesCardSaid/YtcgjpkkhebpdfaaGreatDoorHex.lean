/- HexText, chunk.Line, encode.Begin and the reference's: what each answers for every number. -/
import Derived.Test.YtcgjpkkhebpdfaaGreatDoorText
namespace Go.Proofs.YtcgjpkkhebpdfaaGreatDoor
open Go.RowKit
/-- A number's text to the base 16; nothing below 0. -/
def hexB (n : Int) : ByteArray := if n < 0 then ⟨#[]⟩ else ⟨(figL 16 n.natAbs).toArray⟩
def crlf : ByteArray := ⟨#[13, 10]⟩
/-- The line ahead of a chunk. -/
def clineB (n : Int) : ByteArray := if n < 0 then ⟨#[]⟩ else hexB n ++ crlf
def beginB (n : Int) : ByteArray := if n < 1 then ⟨#[]⟩ else clineB n
theorem hexB_size (n : Int) (h' : n ≤ 9223372036854775807) : (hexB n).size ≤ 64 := by
  unfold hexB
  split
  · exact Nat.zero_le _
  · exact figB_size (by decide) _ (by omega)
theorem clineB_size (n : Int) (h' : n ≤ 9223372036854775807) : (clineB n).size ≤ 66 := by
  have := hexB_size n h'
  unfold clineB
  split
  · exact Nat.zero_le _
  · rw [ByteArray.size_append]; show (hexB n).size + 2 ≤ 66; omega
theorem beginB_size (n : Int) (h' : n ≤ 9223372036854775807) : (beginB n).size ≤ 66 := by
  have := clineB_size n h'
  unfold beginB
  split
  · exact Nat.zero_le _
  · exact this
end Go.Proofs.YtcgjpkkhebpdfaaGreatDoor
