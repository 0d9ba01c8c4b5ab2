/- The walk of QueueOrder. -/
import Derived.Test.YtmkjkodblincbaaQueuePlays
namespace Go.Proofs.Ytmkjkodblincbaa
open Go.RowKit
theorem len_int {w : World} {b g most : Nat} {S : List UInt8} (h : Que w b g most S) (z : Int) (hz : z = S.length) : Calls Try.prog 26 #[.pointer (some ⟨b, 0, none⟩)] w fun e w' => e = .returned (.int .i64 z) ∧ w = w' := by
  rw [hz]; exact len_any h
theorem room_int {w : World} {b g most : Nat} {S : List UInt8} (h : Que w b g most S) (z : Int) (hz : z = most - S.length) : Calls Try.prog 27 #[.pointer (some ⟨b, 0, none⟩)] w fun e w' => e = .returned (.int .i64 z) ∧ w = w' := by
  rw [hz]; exact room_any h
set_option maxHeartbeats 4000000 in
set_option maxRecDepth 100000 in
theorem qorder_zero {w : World} {A : Option Addr} {len cap most : Nat} {l : List GAct} (h : Acts w A len l) (hl0 : len = 0) (hs : l.all short = true) (hm : most ≤ 2000) :
    Calls Try.prog 6 #[.int .i64 most, .slice A len cap] w fun e w' => e = .returned (.bool true) ∧ Below w.heap.size w w' := by
  have hl : len ≤ 60 := by omega
  subst hl0
  have HS := Lib.hid hs
  have m0 : decide ((most : Int) < 0) = false := by simp
  have m1 : decide ((2000 : Int) < (most : Int)) = false := by simp; omega
  have bz : Below w.heap.size w (w.alloc (.cells #[.slice none 0 0, .int .i64 0, .int .i64 0] 57)) := (Below.refl _ _).alloc (Nat.le_refl _) _
  have H := Lib.hid (h.below bz)
  have BZ := Lib.hid bz
  clear h hs bz
  have N0 := Lib.hid (show ∀ W : World, Nought W none from fun _ => .inl rfl)
  have NZ := Lib.hid (show Nought (w.alloc (.cells #[.slice none 0 0, .int .i64 0, .int .i64 0] 57)) (some ⟨w.heap.size, 0, none⟩) from .inr ⟨_, rfl, Blk.new _ _ _⟩)
  have hj : (⟨#[]⟩ : ByteArray) ++ ⟨#[]⟩ = ⟨#[]⟩ := by decide
  have hee : (⟨#[]⟩ : ByteArray).toList.isEmpty = true := by rw [← decide_eq_emptyBytes]; exact decide_eq_true rfl
  go_enter Try.func6, Try.ntmps6
  go_wp2_with fail
  refine (put_nought (N0.out _) ⟨#[97]⟩ (by decide)).mono ?_
  rintro e w' ⟨rfl, rfl⟩
  go_wp2_with fail
  refine (put_nought NZ.out ⟨#[97]⟩ (by decide)).mono ?_
  rintro e w' ⟨rfl, rfl⟩
  go_wp2_with fail
  refine (len_nought (N0.out _)).mono ?_
  rintro e w' ⟨rfl, rfl⟩
  go_wp2_with fail
  refine (len_nought NZ.out).mono ?_
  rintro e w' ⟨rfl, rfl⟩
  go_wp2_with fail
  refine (room_nought (N0.out _)).mono ?_
  rintro e w' ⟨rfl, rfl⟩
  go_wp2_with fail
  refine (room_nought NZ.out).mono ?_
  rintro e w' ⟨rfl, rfl⟩
  go_wp2_with fail
  refine (most_nought (N0.out _)).mono ?_
  rintro e w' ⟨rfl, rfl⟩
  go_wp2_with fail
  refine (most_nought NZ.out).mono ?_
  rintro e w' ⟨rfl, rfl⟩
  go_wp2_with fail
  refine (take_nought (N0.out _) 5 (by omega)).mono ?_
  rintro e w' ⟨rfl, rfl⟩
  go_wp2_with fail
  refine (take_nought NZ.out 5 (by omega)).mono ?_
  rintro e w' ⟨rfl, rfl⟩
  go_wp2_with fail
  refine (peek_nought (N0.out _) 5 (by omega)).mono ?_
  rintro e w' ⟨rfl, rfl⟩
  go_wp2_with fail
  refine (peek_nought NZ.out 5 (by omega)).mono ?_
  rintro e w' ⟨rfl, rfl⟩
  go_wp2_with fail
  clear hj hee
  refine (few_any H.out hl).mono ?_
  rintro e wf ⟨rfl, bf⟩
  rw [HS.out]
  have BF := Lib.hid (BZ.out.trans (bf.mono (by simp)))
  have bfz : w.heap.size + 1 ≤ wf.heap.size := by simpa using bf.size
  clear bf
  go_wp2_with fail
  refine (qnew_any most (by omega) _).mono ?_
  rintro e w1 ⟨rfl, q1, b1, z1⟩
  have Q1 := Lib.hid q1
  have B1 := Lib.hid (BF.out.trans (b1.mono (by omega)))
  have Z1 := Lib.hid z1
  have z1' : wf.heap.size + 1 < w1.heap.size := by omega
  clear q1 b1 z1
  go_wp2_with fail
  refine wp_loop_rounds 1 ?_
  rw [rounds_succ]
  have hj0 : (⟨#[]⟩ : ByteArray) ++ ⟨#[]⟩ = ⟨#[]⟩ := by decide
  go_wp2_with fail
  refine (take_at Q1.out most (by omega) ⟨#[]⟩ [] (by simp) (by simp)).mono ?_
  rintro e w3 ⟨rfl, _, t3⟩
  have b3 : Below w.heap.size w w3 := B1.out.trans (t3.below (fun i _ h => by omega) B1.out.size)
  clear t3
  go_wp2_with fail
  refine (qlives _).mono ?_
  rintro e w' ⟨rfl, hb2⟩
  go_wp2_with fail
  go_ret
  exact ⟨rfl, b3.trans (hb2.mono b3.size)⟩
set_option maxHeartbeats 4000000 in
set_option maxRecDepth 100000 in
theorem qorder_main {w : World} {A : Option Addr} {len cap most : Nat} {l : List GAct} (h : Acts w A len l) (hl : len ≤ 60) (hs : l.all short = true) (hm : most ≤ 2000) :
    Calls Try.prog 6 #[.int .i64 most, .slice A len cap] w fun e w' => e = .returned (.bool true) ∧ Below w.heap.size w w' := by
  rcases Nat.eq_zero_or_pos len with hlen0 | hlen0
  · exact qorder_zero h hlen0 hs hm
  obtain ⟨b, off, rfl, _⟩ := h.cells hlen0
  have HA := Lib.hid h
  have HS := Lib.hid hs
  have m0 : decide ((most : Int) < 0) = false := by simp
  have m1 : decide ((2000 : Int) < (most : Int)) = false := by simp; omega
  have bz : Below w.heap.size w (w.alloc (.cells #[.slice none 0 0, .int .i64 0, .int .i64 0] 57)) := (Below.refl _ _).alloc (Nat.le_refl _) _
  have H := Lib.hid (h.below bz)
  have BZ := Lib.hid bz
  clear h hs bz
  have N0 := Lib.hid (show ∀ W : World, Nought W none from fun _ => .inl rfl)
  have NZ := Lib.hid (show Nought (w.alloc (.cells #[.slice none 0 0, .int .i64 0, .int .i64 0] 57)) (some ⟨w.heap.size, 0, none⟩) from .inr ⟨_, rfl, Blk.new _ _ _⟩)
  have hj : (⟨#[]⟩ : ByteArray) ++ ⟨#[]⟩ = ⟨#[]⟩ := by decide
  have hee : (⟨#[]⟩ : ByteArray).toList.isEmpty = true := by rw [← decide_eq_emptyBytes]; exact decide_eq_true rfl
  go_enter Try.func6, Try.ntmps6
  go_wp2_with fail
  refine (put_nought (N0.out _) ⟨#[97]⟩ (by decide)).mono ?_
  rintro e w' ⟨rfl, rfl⟩
  go_wp2_with fail
  refine (put_nought NZ.out ⟨#[97]⟩ (by decide)).mono ?_
  rintro e w' ⟨rfl, rfl⟩
  go_wp2_with fail
  refine (len_nought (N0.out _)).mono ?_
  rintro e w' ⟨rfl, rfl⟩
  go_wp2_with fail
  refine (len_nought NZ.out).mono ?_
  rintro e w' ⟨rfl, rfl⟩
  go_wp2_with fail
  refine (room_nought (N0.out _)).mono ?_
  rintro e w' ⟨rfl, rfl⟩
  go_wp2_with fail
  refine (room_nought NZ.out).mono ?_
  rintro e w' ⟨rfl, rfl⟩
  go_wp2_with fail
  refine (most_nought (N0.out _)).mono ?_
  rintro e w' ⟨rfl, rfl⟩
  go_wp2_with fail
  refine (most_nought NZ.out).mono ?_
  rintro e w' ⟨rfl, rfl⟩
  go_wp2_with fail
  refine (take_nought (N0.out _) 5 (by omega)).mono ?_
  rintro e w' ⟨rfl, rfl⟩
  go_wp2_with fail
  refine (take_nought NZ.out 5 (by omega)).mono ?_
  rintro e w' ⟨rfl, rfl⟩
  go_wp2_with fail
  refine (peek_nought (N0.out _) 5 (by omega)).mono ?_
  rintro e w' ⟨rfl, rfl⟩
  go_wp2_with fail
  refine (peek_nought NZ.out 5 (by omega)).mono ?_
  rintro e w' ⟨rfl, rfl⟩
  go_wp2_with fail
  clear hj hee
  refine (few_any H.out hl).mono ?_
  rintro e wf ⟨rfl, bf⟩
  rw [HS.out]
  have BF := Lib.hid (BZ.out.trans (bf.mono (by simp)))
  have bfz : w.heap.size + 1 ≤ wf.heap.size := by simpa using bf.size
  clear bf
  go_wp2_with fail
  refine (qnew_any most (by omega) _).mono ?_
  rintro e w1 ⟨rfl, q1, b1, z1⟩
  have Q1 := Lib.hid q1
  have B1 := Lib.hid (BF.out.trans (b1.mono (by omega)))
  have Z1 := Lib.hid z1
  have z1' : wf.heap.size + 1 < w1.heap.size := by omega
  clear q1 b1 z1
  go_wp2_with fail
  have HL : ∀ a ∈ l, a.text.size ≤ 300 := fun a ha => by
    have := List.all_eq_true.1 HS.out a ha
    simpa [short] using this
  have HLL := Lib.hid HL
  clear HL
  go_loopw [8, 9, 72] (fun p t i wr => ∃ (k : Nat) (P T : ByteArray) (S : List UInt8), k ≤ len ∧ i = .int .i64 k ∧ p = .string P ∧ t = .string T ∧ P.size ≤ 300 * k ∧ T.size + S.length = P.size ∧ Hid (P.data.toList = T.data.toList ++ S) ∧ Que wr (wf.heap.size + 1) wf.heap.size most S ∧ Below w.heap.size w wr) (fun _ _ i _ => len - (intOf i).toNat)
  case atStart => exact ⟨0, ⟨#[]⟩, ⟨#[]⟩, [], Nat.zero_le _, rfl, rfl, rfl, Nat.zero_le _, rfl, Lib.hid rfl, Q1.out, B1.out⟩
  case round =>
    obtain ⟨k, P, T, S, hk, rfl, rfl, rfl, hP, hTS, HPT, hq, hnx⟩ := hrel
    have HQ := Lib.hid hq
    have hSm := hq.le
    have hTP : T.size ≤ P.size := by omega
    have hqlt : wf.heap.size + 1 < wr.heap.size := by obtain ⟨_, _, _, hh, _⟩ := hq; exact hh.head.lt
    clear hq
    by_cases hlt : k < len
    · obtain ⟨a, hal, c1, c2, c3, f1, f2, f3, f4, f5⟩ := HA.out.get hnx hlt
      have hz := hnx.size
      have hal3 := HLL.out a hal
      clear hal
      by_cases o1 : a.op = 1
      · have e1 : (a.op == 1) = true := by simpa using o1
        obtain ⟨K, hK⟩ : ∃ K, K = min a.text.size (most - S.length) := ⟨_, rfl⟩
        have hK1 : K ≤ a.text.size := by omega
        have hK3 : K ≤ most - S.length := by omega
        obtain ⟨P', hP'⟩ : ∃ x, x = P ++ a.text.extract 0 K := ⟨_, rfl⟩
        have hPz : P'.size = P.size + K := by rw [hP', ByteArray.size_append, ByteArray.size_extract]; omega
        obtain ⟨S', hS'⟩ : ∃ x, x = S ++ a.text.data.toList.take (most - S.length) := ⟨_, rfl⟩
        have hSz : S'.length = S.length + K := by rw [hS', List.length_append, List.length_take, bsize]; omega
        have hpt : P'.data.toList = T.data.toList ++ S' := by
          rw [hP', data_append, HPT.out, hS', data_extract, List.append_assoc, List.drop_zero, Nat.sub_zero]
          congr 2
          rw [List.take_eq_take_iff, bsize]
          omega
        have hadd := fun (W : World) => run_string_add_sum (P := Try.prog) (w := W) P (a.text.extract 0 K) (by rw [ByteArray.size_extract]; omega)
        have hjoin : P ++ a.text.extract 0 K = P' := hP'.symm
        have HPT3 := Lib.hid hpt
        have HK := Lib.hid (show (K : Int) = (min a.text.size (most - S.length) : Nat) by rw [hK])
        have HS' := Lib.hid hS'
        have h5 : S'.length ≤ most := by omega
        have h6 : P'.size ≤ 300 * (k + 1) := by omega
        have h7 : T.size + S'.length = P'.size := by omega
        clear hK hP' hpt hS' hSz hPz HPT
        have O1 := Lib.hid o1
        clear o1
        go_wp2_with fail
        refine (put_at (HQ.out.touch (P := fun _ => False) ((Touch.refl _ _).alloc _) id id) a.text f5 K S' HK.out HS'.out).mono ?_
        rintro e w3 ⟨rfl, q3, t3⟩
        have d2 : w3.cell? ⟨wr.heap.size, 2, none⟩ = some (.string a.text) := t3.cell (by show ¬ (wr.heap.size = _ ∨ wr.heap.size = _); omega) ((Blk.new _ _ _).cell 2)
        have b3 : Below w.heap.size w w3 := (hnx.alloc hz _).trans (t3.below (fun i _ h => by omega) (by simp; omega))
        have B3 := Lib.hid b3
        have hz3 := b3.size
        clear t3 b3
        have HQ3 := Lib.hid q3
        have hx3 : P'.extract 0 T.size = T := bytes_ext (by rw [data_extract, HPT3.out, List.drop_zero, Nat.sub_zero, ← bsize, List.take_left])
        have hz3 := Lib.hid (show ((P'.size : Int) - (T.size : Int)) = ((S' : List UInt8).length : Int) by omega)
        have hs3 : ((P'.size : Int) - (T.size : Int) + ((most : Int) - ((P'.size : Int) - (T.size : Int))) != (most : Int)) = false := by rw [bne_eq_false_iff_eq]; omega
        have hr3 := Lib.hid (show ((most : Int) - ((P'.size : Int) - (T.size : Int))) = (most : Int) - ((S' : List UInt8).length : Int) by omega)
        clear q3
        go_wp2_with fail
        refine (len_int HQ3.out _ hz3.out).mono ?_
        rintro e w' ⟨rfl, rfl⟩
        go_wp2_with fail
        refine (len_int HQ3.out _ hz3.out).mono ?_
        rintro e w' ⟨rfl, rfl⟩
        go_wp2_with fail
        refine (room_int HQ3.out _ hr3.out).mono ?_
        rintro e w' ⟨rfl, rfl⟩
        go_wp2_with fail
        go_roundw
        case rel => exact ⟨k + 1, P', T, S', by omega, by go_num, rfl, rfl, by omega, by omega, HPT3, HQ3.out, B3.out⟩
        case measure => simp [intOf]; omega
      · have e1 : (a.op == 1) = false := by simpa using o1
        obtain ⟨x, hx⟩ : ∃ x : ByteArray, x = ⟨(S.take a.n.toNat).toArray⟩ := ⟨_, rfl⟩
        have hxs : x.size = min a.n.toNat S.length := by rw [hx]; show (S.take a.n.toNat).toArray.size = _; rw [List.size_toArray, List.length_take]
        obtain ⟨T', hT'⟩ : ∃ y, y = T ++ x := ⟨_, rfl⟩
        have hTz : T'.size = T.size + x.size := by rw [hT', ByteArray.size_append]
        have hpt : P.data.toList = T'.data.toList ++ S.drop a.n.toNat := by
          rw [hT', data_append, HPT.out, hx, List.append_assoc]
          congr 1
          exact (List.take_append_drop _ _).symm
        have HPT3 := Lib.hid hpt
        have hadd := fun (W : World) => run_string_add_sum (P := Try.prog) (w := W) T x (by omega)
        have hjoin : T ++ x = T' := hT'.symm
        have HX := Lib.hid hx
        have h6 : (S.drop a.n.toNat).length = S.length - a.n.toNat := List.length_drop
        have hTz2 : T'.size + (S.drop a.n.toNat).length = P.size := by omega
        obtain ⟨S', hS'⟩ : ∃ y, y = S.drop a.n.toNat := ⟨_, rfl⟩
        rw [← hS'] at HPT3 hTz2
        have HS' := Lib.hid hS'
        have hxn : (x.size : Int) ≤ max a.n 0 := by omega
        clear hx hT' hpt h6 hS' hTz HPT o1 hTS hxs
        by_cases hn0 : 0 ≤ a.n
        all_goals
          go_wp2_with fail
          refine (peek_at (HQ.out.touch (P := fun _ => False) ((Touch.refl _ _).alloc _) id id) a.n f4 x HX.out).mono ?_
          rintro e w2 ⟨rfl, m2, hw2⟩
          have d1 : w2.cell? ⟨wr.heap.size, 1, none⟩ = some (.int .i64 a.n) := by rw [← hw2]; exact (Blk.new _ _ _).cell 1
          have q2 : Que w2 (wf.heap.size + 1) wf.heap.size most S := by rw [← hw2]; exact HQ.out.touch (P := fun _ => False) (((Touch.refl _ _).alloc _).drewN _) id id
          have b2 : Below w.heap.size w w2 := by rw [← hw2]; exact (hnx.alloc hz _).trans ⟨rfl, rfl, rfl, Nat.le_refl _, fun _ _ => rfl⟩
          have Q2 := Lib.hid q2
          clear hw2 q2
          go_wp2_with fail
          refine (take_at Q2.out a.n f4 x S' HX.out HS'.out).mono ?_
          rintro e w3 ⟨rfl, q3, t3⟩
          have d1' : w3.cell? ⟨wr.heap.size, 1, none⟩ = some (.int .i64 a.n) := t3.cell (by show ¬ (wr.heap.size = _ ∨ wr.heap.size = _); omega) d1
          have b3 : Below w.heap.size w w3 := b2.trans (t3.below (fun i _ h => by omega) b2.size)
          have B3 := Lib.hid b3
          have hz3 := b3.size
          clear t3 b3 d1 b2
          have HQ3 := Lib.hid q3
          have hx3 : P.extract 0 T'.size = T' := bytes_ext (by rw [data_extract, HPT3.out, List.drop_zero, Nat.sub_zero, ← bsize, List.take_left])
          have hz3 := Lib.hid (show ((P.size : Int) - (T'.size : Int)) = ((S' : List UInt8).length : Int) by omega)
          have hs3 : ((P.size : Int) - (T'.size : Int) + ((most : Int) - ((P.size : Int) - (T'.size : Int))) != (most : Int)) = false := by rw [bne_eq_false_iff_eq]; omega
          have hr3 := Lib.hid (show ((most : Int) - ((P.size : Int) - (T'.size : Int))) = (most : Int) - ((S' : List UInt8).length : Int) by omega)
          clear q3
          go_wp2_with fail
          refine (len_int HQ3.out _ hz3.out).mono ?_
          rintro e w' ⟨rfl, rfl⟩
          go_wp2_with fail
          refine (len_int HQ3.out _ hz3.out).mono ?_
          rintro e w' ⟨rfl, rfl⟩
          go_wp2_with fail
          refine (room_int HQ3.out _ hr3.out).mono ?_
          rintro e w' ⟨rfl, rfl⟩
          go_wp2_with fail
          go_roundw
          case rel => exact ⟨k + 1, P, T', S', by omega, by go_num, rfl, rfl, by omega, by omega, HPT3, HQ3.out, B3.out⟩
          case measure => simp [intOf]; omega
    · obtain ⟨x, hx⟩ : ∃ x : ByteArray, x = ⟨(S.take (most : Int).toNat).toArray⟩ := ⟨_, rfl⟩
      have hxS : x = ⟨S.toArray⟩ := by rw [hx, Int.toNat_natCast, List.take_of_length_le hSm]
      have hxs : x.size = S.length := by rw [hxS]; rfl
      have hj : T ++ x = P := bytes_ext (by rw [data_append, HPT.out, hxS])
      have HX := Lib.hid hx
      have hTS2 : T.size + x.size ≤ 18000 := by omega
      clear hx hxS hxs
      have hadd := fun (W : World) => run_string_add_sum (P := Try.prog) (w := W) T x (by omega)
      go_wp2_with fail
      refine (take_at HQ.out most (by omega) x _ HX.out rfl).mono ?_
      rintro e w3 ⟨rfl, _, t3⟩
      have b3 : Below w.heap.size w w3 := hnx.trans (t3.below (fun i _ h => by omega) hnx.size)
      clear t3
      go_wp2_with fail
      refine (qlives _).mono ?_
      rintro e w' ⟨rfl, hb2⟩
      go_wp2_with fail
      go_ret
      exact ⟨rfl, b3.trans (hb2.mono b3.size)⟩
end Go.Proofs.Ytmkjkodblincbaa
