/- The reference's queue; New of package queue. -/
import Derived.Test.YtekbmefdaepgcaaQueuePut
namespace Go.Proofs.Ytekbmefdaepgcaa
open Go.RowKit
theorem bytes_ext {a b : ByteArray} (h : a.data.toList = b.data.toList) : a = b := by
  apply ByteArray.ext
  exact Array.toList_inj.1 h
theorem bsize (s : ByteArray) : s.data.toList.length = s.size := (Lib.size_eq s).symm
theorem data_append (a b : ByteArray) : (a ++ b).data.toList = a.data.toList ++ b.data.toList := by simp
theorem data_extract (s : ByteArray) (i j : Nat) : (s.extract i j).data.toList = (s.data.toList.drop i).take (j - i) := by
  rw [ByteArray.data_extract, Array.toList_extract, List.extract_eq_take_drop]
theorem grow_one (S s : ByteArray) (k : Nat) (hk : k < s.size) : S ++ s.extract 0 k ++ s.extract k (k + 1) = S ++ s.extract 0 (k + 1) := by
  apply bytes_ext
  simp only [data_append, data_extract, List.drop_zero, Nat.sub_zero, List.append_assoc]
  congr 1
  have : k < s.data.toList.length := by rw [bsize]; exact hk
  rw [List.take_succ_eq_append_getElem this, List.drop_eq_getElem_cons this, show k + 1 - k = 1 from by omega]
  simp
end Go.Proofs.Ytekbmefdaepgcaa
