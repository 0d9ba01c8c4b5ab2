/- The reference's queue; New of package queue. -/
import Derived.Test.YtmkjkodblincbaaQueuePut
namespace Go.Proofs.Ytmkjkodblincbaa
open Go.RowKit
/-- Block b is the reference's queue: its text is S, its room most. -/
def Rq (w : World) (b : Nat) (S : ByteArray) (most : Int) : Prop := Blk w b #[.string S, .int .i64 most] 48
theorem bytes_ext {a b : ByteArray} (h : a.data.toList = b.data.toList) : a = b := by
  apply ByteArray.ext
  exact Array.toList_inj.1 h
theorem bsize (s : ByteArray) : s.data.toList.length = s.size := (Lib.size_eq s).symm
theorem data_append (a b : ByteArray) : (a ++ b).data.toList = a.data.toList ++ b.data.toList := by simp
theorem data_extract (s : ByteArray) (i j : Nat) : (s.extract i j).data.toList = (s.data.toList.drop i).take (j - i) := by
  rw [ByteArray.data_extract, Array.toList_extract, List.extract_eq_take_drop]
theorem grow_one (S s : ByteArray) (k : Nat) (hk : k < s.size) : S ++ s.extract 0 k ++ s.extract k (k + 1) = S ++ s.extract 0 (k + 1) := by
  apply bytes_ext
  simp only [data_append, data_extract, List.drop_zero, Nat.sub_zero, List.append_assoc]
  congr 1
  have : k < s.data.toList.length := by rw [bsize]; exact hk
  rw [List.take_succ_eq_append_getElem this, List.drop_eq_getElem_cons this, show k + 1 - k = 1 from by omega]
  simp
set_option maxHeartbeats 1000000 in
theorem rput_any {w : World} {b : Nat} {S : ByteArray} {most : Nat} (h : Rq w b S (most : Int)) (s : ByteArray) (hs : s.size ≤ 9223372036854775807) (hm : most ≤ 4611686018427387903) (hle : S.size ≤ most) :
    Calls Try.prog 21 #[.pointer (some ⟨b, 0, none⟩), .string s] w fun e w' =>
      e = .returned (.int .i64 (min s.size (most - S.size) : Nat)) ∧ Rq w' b (S ++ s.extract 0 (min s.size (most - S.size))) most ∧ Touch (fun i => i = b) w w' := by
  have HB := Lib.hid h
  clear h
  go_enter Try.func21, Try.ntmps21
  go_wp2_with fail
  go_loopw [5] (fun i wr => ∃ k : Nat, k ≤ s.size ∧ k ≤ most - S.size ∧ i = .int .i64 k ∧ Rq wr b (S ++ s.extract 0 k) most ∧ Touch (fun i => i = b) w wr) (fun i _ => s.size - (intOf i).toNat)
  case atStart =>
    refine ⟨0, Nat.zero_le _, Nat.zero_le _, rfl, ?_, Touch.refl _ _⟩
    have : S ++ s.extract 0 0 = S := by apply bytes_ext; simp [data_append, data_extract]
    rw [this]
    exact HB.out
  case round =>
    obtain ⟨k, hk1, hk2, rfl, hq, ht⟩ := hrel
    have hsz : (S ++ s.extract 0 k).size = S.size + k := by rw [ByteArray.size_append, ByteArray.size_extract]; omega
    have hone := fun hk => grow_one S s k hk
    have HO := Lib.hid hone
    clear hone
    obtain ⟨T, hT⟩ : ∃ T, T = S ++ s.extract 0 k := ⟨_, rfl⟩
    rw [← hT] at hq hsz
    have HT := Lib.hid hT
    have HS := Lib.hid hsz
    clear hT
    have hc0 : wr.cell? ⟨b, 0, none⟩ = some (.string T) := hq.cell 0
    have hc1 : wr.cell? ⟨b, 1, none⟩ = some (.int .i64 most) := hq.cell 1
    have hf0 : wr.frozen? ⟨b, 0, none⟩ = false := hq.froz 0
    have HQ := Lib.hid hq
    clear hq
    by_cases hlt : k < s.size
    · by_cases hroom : S.size + k < most
      · go_wp2_with fail
        go_quiet (fail)
        go_wp2_with fail
        have hadd := fun (W : World) => run_string_add_sum (P := Try.prog) (w := W) T (s.extract k (k + 1)) (by rw [HS.out, ByteArray.size_extract]; omega)
        go_region
        clear hadd
        go_wp2_with fail
        go_roundw
        case rel =>
          refine ⟨k + 1, by omega, by omega, by go_num, ?_, ?_⟩
          · have := HQ.out.set 0 (.string (T ++ s.extract k (k + 1)))
            have h2 : Rq (wr.setCell ⟨b, 0, none⟩ (.string (T ++ s.extract k (k + 1)))) b (T ++ s.extract k (k + 1)) most := by unfold Rq; simpa using this
            rw [← HO.out hlt, ← HT.out]
            exact h2
          · exact (ht.drewN _).setCell (P := fun i => i = b) rfl _
        case measure => simp [intOf]; omega
      · have hd : decide ((S.size : Int) + (k : Int) < (most : Int)) = false := by simp; omega
        go_wp2_with fail
        go_quiet (fail)
        go_wp2_with fail
        go_ret
        have hk : min s.size (most - S.size) = k := by omega
        rw [hk, ← HT.out]
        exact ⟨rfl, HQ.out, ht.drewN _⟩
    · have hd : decide ((k : Int) < (s.size : Int)) = false := by simp; omega
      go_wp2_with fail
      go_quiet (fail)
      go_wp2_with fail
      go_ret
      have hk : min s.size (most - S.size) = k := by omega
      rw [hk, ← HT.out]
      exact ⟨rfl, HQ.out, ht.drewN _⟩
set_option maxHeartbeats 1000000 in
theorem rpeek_any {w : World} {b : Nat} {S : ByteArray} {most : Int} (h : Rq w b S most) (k : Int) (hs : S.size ≤ 9223372036854775807) :
    Calls Try.prog 25 #[.pointer (some ⟨b, 0, none⟩), .int .i64 k] w fun e w' => e = .returned (.string ⟨(S.data.toList.take k.toNat).toArray⟩) ∧ w = w' := by
  have hc0 : w.cell? ⟨b, 0, none⟩ = some (.string S) := h.cell 0
  clear h
  by_cases h1 : k < 1
  · have F := Lib.hid (show (⟨#[]⟩ : ByteArray) = ⟨(S.data.toList.take k.toNat).toArray⟩ from by rw [show k.toNat = 0 from by omega]; rfl)
    go_enter Try.func25, Try.ntmps25
    go_wp2
    go_ret
    exact ⟨ret_string F.out, rfl⟩
  · obtain ⟨m, rfl⟩ := Int.eq_ofNat_of_zero_le (show 0 ≤ k by omega)
    by_cases h2 : S.size < m
    · have F := Lib.hid (show S = ⟨(S.data.toList.take m).toArray⟩ from bytes_ext (by rw [List.take_of_length_le (by rw [bsize]; omega)]))
      go_enter Try.func25, Try.ntmps25
      go_wp2
      go_ret
      exact ⟨ret_string F.out, rfl⟩
    · have F := Lib.hid (show S.extract 0 m = ⟨(S.data.toList.take m).toArray⟩ from bytes_ext (by rw [data_extract]; simp))
      go_enter Try.func25, Try.ntmps25
      go_wp2
      go_ret
      exact ⟨ret_string F.out, rfl⟩
set_option maxHeartbeats 1000000 in
theorem rtake_any {w : World} {b : Nat} {S : ByteArray} {most : Int} (h : Rq w b S most) (k : Int) (hs : S.size ≤ 9223372036854775807) :
    Calls Try.prog 23 #[.pointer (some ⟨b, 0, none⟩), .int .i64 k] w fun e w' =>
      e = .returned (.string ⟨(S.data.toList.take k.toNat).toArray⟩) ∧ Rq w' b ⟨(S.data.toList.drop k.toNat).toArray⟩ most ∧ Touch (fun i => i = b) w w' := by
  obtain ⟨sv, hsv⟩ : ∃ sv : ByteArray, sv = ⟨(S.data.toList.take k.toNat).toArray⟩ := ⟨_, rfl⟩
  have hp := rpeek_any h k hs
  rw [← hsv] at hp ⊢
  have hsz : sv.size = min k.toNat S.size := by rw [hsv]; show (S.data.toList.take k.toNat).toArray.size = _; rw [List.size_toArray, List.length_take, bsize]
  have hle : sv.size ≤ S.size := by omega
  have hc0 : w.cell? ⟨b, 0, none⟩ = some (.string S) := h.cell 0
  have hf0 : w.frozen? ⟨b, 0, none⟩ = false := h.froz 0
  have F := Lib.hid (show S.extract sv.size S.size = ⟨(S.data.toList.drop k.toNat).toArray⟩ from bytes_ext (by
    rw [data_extract, List.take_of_length_le (by rw [List.length_drop, bsize]; omega)]
    by_cases hk : k.toNat ≤ S.size
    · rw [show sv.size = k.toNat from by omega]
    · rw [List.drop_of_length_le (by rw [bsize]; omega), List.drop_of_length_le (by rw [bsize]; omega)]))
  have HP := Lib.hid hp
  have HQ := Lib.hid h
  clear hp hsv hsz h
  go_enter Try.func23, Try.ntmps23
  go_wp2_with fail
  refine HP.out.mono ?_
  rintro e w' ⟨rfl, rfl⟩
  go_wp2_with fail
  go_ret
  refine ⟨rfl, ?_, (Touch.refl _ _).setCell (P := fun i => i = b) rfl _⟩
  rw [← F.out]
  have := HQ.out.set 0 (.string (S.extract sv.size S.size))
  unfold Rq
  simpa using this
end Go.Proofs.Ytmkjkodblincbaa
