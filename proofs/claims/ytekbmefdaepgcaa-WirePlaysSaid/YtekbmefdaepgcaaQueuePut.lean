/- The queue of package queue: Put. -/
import Derived.Test.YtekbmefdaepgcaaQueue
import Derived.Deep.RegionLaw
import Derived.Deep.DeepCutAuto
namespace Go.Proofs.Ytekbmefdaepgcaa
open Go.RowKit
theorem ret_int {k : IntKind} {a b : Int} (h : a = b) : Ending.returned (.int k a) = .returned (.int k b) := by rw [h]
theorem IsQ.put {w : World} {b g f n n' : Nat} {R R' : List UInt8} (hh : Blk w b #[.slice (some ⟨g, 0, none⟩) R.length R.length, .int .i64 f, .int .i64 n] 136) (hr : Blk w g (bys R') 5) (hl : R'.length = R.length)
    (h1 : f < R.length) (h2 : n' ≤ R.length) (hm : R.length ≤ 65536) : IsQ (w.setCell ⟨b, 2, none⟩ (.int .i64 n')) b g R' f n' := by
  have hbg : b ≠ g := hh.ne hr (by decide)
  refine ⟨?_, hr.far (p := ⟨b, 2, none⟩) (Ne.symm hbg) _, .inl (by omega), by omega, by omega⟩
  rw [hl]
  simpa using hh.set 2 (.int .i64 n')
theorem tail_drop (s : ByteArray) (D m len : Nat) (hD : D = min s.size m) (hl : s.size - D ≤ len) : (s.extract D s.size).data.toList.take len = s.data.toList.drop m := by
  have hs : s.data.toList.length = s.size := (Lib.size_eq s).symm
  have e : (s.extract D s.size).data.toList = s.data.toList.drop D := by
    rw [ByteArray.data_extract, Array.toList_extract]
    rw [List.extract_eq_take_drop, List.take_of_length_le (by rw [List.length_drop]; omega)]
  rw [e, List.take_of_length_le (by rw [List.length_drop]; omega)]
  by_cases h : s.size ≤ m
  · rw [List.drop_of_length_le (by omega), List.drop_of_length_le (by omega)]
  · rw [show D = m from by omega]
set_option maxHeartbeats 1000000 in
theorem put_all {w : World} {b g f n : Nat} {R : List UInt8} (hq : IsQ w b g R f n) (s : ByteArray) (hs : s.size ≤ 9223372036854775807) (h0 : s.size ≤ R.length - n) (h1 : ¬ s.size ≤ 0) :
    Calls Try.prog 131 #[.pointer (some ⟨b, 0, none⟩), .string s] w fun e w' =>
      e = .returned (.int .i64 (s.size : Nat)) ∧ Que w' b g R.length (Ring.text R f n ++ s.data.toList) ∧ Touch (fun i => i = b ∨ i = g) w w' := by
  have H := Lib.hid (show Que w b g R.length (Ring.text R f n) from ⟨R, f, n, hq, rfl, rfl⟩)
  have hl := hq.le
  have hm := hq.most
  have hat := hq.at_
  have hn := Lib.hid (Que.len hq)
  have hf : f < R.length := by omega
  clear hat
  have hne := isEmpty_of_pos h1
  have hc0 : w.cell? ⟨b, 0, none⟩ = some (.slice (some ⟨g, 0, none⟩) R.length R.length) := hq.head.cell 0
  have hc1 : w.cell? ⟨b, 1, none⟩ = some (.int .i64 f) := hq.head.cell 1
  have hc2 : w.cell? ⟨b, 2, none⟩ = some (.int .i64 n) := hq.head.cell 2
  have hlm : ((R.length : Int) == 0) = false := by rw [beq_eq_false_iff_ne]; omega
  obtain ⟨T, hT⟩ : ∃ T, T = Ring.at_ R.length f n := ⟨_, rfl⟩
  have hTl : T < R.length := by rw [hT]; unfold Ring.at_; split <;> omega
  have hrem : ((f : Int) + (n : Int)).tmod (R.length : Int) = (T : Int) := by
    rw [hT, ← Ring.at_mod _ _ _ hf (by omega), Int.tmod_eq_emod_of_nonneg (by omega)]
    rfl
  have HT := Lib.hid hT
  clear hT
  obtain ⟨D, hD⟩ : ∃ D, D = min s.size (R.length - T) := ⟨_, rfl⟩
  have hD1 : D ≤ s.size := by omega
  have hD2 : D ≤ R.length - T := by omega
  have HD := Lib.hid hD
  clear hD
  have hbg := hq.ne
  have hL1 := Ring.length_over R T (s.data.toList.take (R.length - T)) (by rw [List.length_take]; omega)
  have HL1 := Lib.hid (show 0 + R.length ≤ (Ring.over R T (s.data.toList.take (R.length - T))).length by rw [hL1]; omega)
  have HZ := Lib.hid (show s.size - D = min (s.extract D s.size).size R.length by rw [ByteArray.size_extract]; omega)
  have hlist := tail_drop s D (R.length - T) R.length HD.out (by omega)
  have HE := Lib.hid hlist
  have hL2 : (Ring.over (Ring.over R T (s.data.toList.take (R.length - T))) 0 (List.take R.length (s.extract D s.size).data.toList)).length = R.length := by
    rw [Ring.length_over _ _ _ (by rw [hL1, List.length_take]; omega), hL1]
  have HL2 := Lib.hid hL2
  have HP := Lib.hid (Ring.put_text R s.data.toList f n hf (by rw [← Lib.size_eq]; omega))
  clear hL1 hL2 hlist
  go_enter Try.func131, Try.ntmps131
  go_wp2_with fail
  refine (room_any H.out).mono ?_
  rintro e w' ⟨rfl, rfl⟩
  rw [hn.out]
  go_wp2_with fail
  go_quiet (fail)
  clear hrem
  go_wp2_with (((with_reducible refine wpList_copy_str rfl _ (.tmp 37) 97 9 rfl 5 Try.underlying97 (by kernel_rfl) g T (R.length - T) (R.length - T) rfl s rfl R 5 (hq.row.drewN _) (by omega) D HD.out ?_); intro w1 hB1 hT1; have hQ1 := (hq.head.drewN _).touch hT1 hbg; have hd0 : w1.cell? ⟨b, 0, none⟩ = some (.slice (some ⟨g, 0, none⟩) R.length R.length) := hQ1.cell 0; have hd2 : w1.cell? ⟨b, 2, none⟩ = some (.int .i64 n) := hQ1.cell 2; have hfz : w1.frozen? ⟨b, 2, none⟩ = false := hQ1.froz 2))
  go_region_law ((with_reducible refine step_copy_str rfl (.tmp 42) (.tmp 45) 97 9 rfl 5 Try.underlying97 (by kernel_rfl) g 0 R.length R.length rfl (s.extract D s.size) rfl _ 5 hB1.drew HL1.out (s.size - D) HZ.out ?_); intro w2 hB2 hT2)
  have hQ2 := hQ1.drew.touch hT2 hbg
  have hd2' : w2.cell? ⟨b, 2, none⟩ = some (.int .i64 n) := hQ2.cell 2
  have hfz' : w2.frozen? ⟨b, 2, none⟩ = false := hQ2.froz 2
  have HB2 := Lib.hid hB2
  clear hB2
  go_wp2_with fail
  go_ret
  rw [show (n : Int) + (s.size : Int) = ((n + s.size : Nat) : Int) from by omega]
  refine ⟨ret_int (by omega), ⟨_, f, n + s.size, IsQ.put hQ2 HB2.out HL2.out hf (by omega) hm, HL2.out, ?_⟩, ?_⟩
  · have hp := HP.out
    rw [← HT.out] at hp
    rw [HE.out, Lib.size_eq]
    exact hp
  · refine Touch.setCell ?_ (.inl rfl) _
    exact ((((Touch.refl _ w).drewN _).trans (hT1.mono fun _ _ h => .inr h)).drew).trans (hT2.mono fun _ _ h => .inr h)
set_option maxHeartbeats 1000000 in
theorem put_part {w : World} {b g f n : Nat} {R : List UInt8} (hq : IsQ w b g R f n) (s t : ByteArray) (ht : t = s.extract 0 (R.length - n)) (hs : s.size ≤ 9223372036854775807) (h0 : ¬ s.size ≤ R.length - n) (h1 : ¬ R.length ≤ n) :
    Calls Try.prog 131 #[.pointer (some ⟨b, 0, none⟩), .string s] w fun e w' =>
      e = .returned (.int .i64 (t.size : Nat)) ∧ Que w' b g R.length (Ring.text R f n ++ t.data.toList) ∧ Touch (fun i => i = b ∨ i = g) w w' := by
  have H := Lib.hid (show Que w b g R.length (Ring.text R f n) from ⟨R, f, n, hq, rfl, rfl⟩)
  have hl := hq.le
  have hm := hq.most
  have hat := hq.at_
  have hn := Lib.hid (Que.len hq)
  have hts : t.size = R.length - n := by rw [ht, ByteArray.size_extract]; omega
  have h1 : ¬ t.size ≤ 0 := by omega
  have hts1 : t.size ≤ R.length - n := by omega
  have hne' : (s.extract 0 (R.length - n)).toList.isEmpty = false := by rw [← ht]; exact isEmpty_of_pos h1
  have HTT := Lib.hid ht
  clear ht hts
  have hf : f < R.length := by omega
  clear hat
  have hne := isEmpty_of_pos h1
  have hc0 : w.cell? ⟨b, 0, none⟩ = some (.slice (some ⟨g, 0, none⟩) R.length R.length) := hq.head.cell 0
  have hc1 : w.cell? ⟨b, 1, none⟩ = some (.int .i64 f) := hq.head.cell 1
  have hc2 : w.cell? ⟨b, 2, none⟩ = some (.int .i64 n) := hq.head.cell 2
  have hlm : ((R.length : Int) == 0) = false := by rw [beq_eq_false_iff_ne]; omega
  obtain ⟨T, hT⟩ : ∃ T, T = Ring.at_ R.length f n := ⟨_, rfl⟩
  have hTl : T < R.length := by rw [hT]; unfold Ring.at_; split <;> omega
  have hrem : ((f : Int) + (n : Int)).tmod (R.length : Int) = (T : Int) := by
    rw [hT, ← Ring.at_mod _ _ _ hf (by omega), Int.tmod_eq_emod_of_nonneg (by omega)]
    rfl
  have HT := Lib.hid hT
  clear hT
  obtain ⟨D, hD⟩ : ∃ D, D = min t.size (R.length - T) := ⟨_, rfl⟩
  have hD1 : D ≤ t.size := by omega
  have hD2 : D ≤ R.length - T := by omega
  have HD := Lib.hid hD
  clear hD
  have hbg := hq.ne
  have hL1 := Ring.length_over R T (t.data.toList.take (R.length - T)) (by rw [List.length_take]; omega)
  have HL1 := Lib.hid (show 0 + R.length ≤ (Ring.over R T (t.data.toList.take (R.length - T))).length by rw [hL1]; omega)
  have HZ := Lib.hid (show t.size - D = min (t.extract D t.size).size R.length by rw [ByteArray.size_extract]; omega)
  have hlist := tail_drop t D (R.length - T) R.length HD.out (by omega)
  have HE := Lib.hid hlist
  have hL2 : (Ring.over (Ring.over R T (t.data.toList.take (R.length - T))) 0 (List.take R.length (t.extract D t.size).data.toList)).length = R.length := by
    rw [Ring.length_over _ _ _ (by rw [hL1, List.length_take]; omega), hL1]
  have HL2 := Lib.hid hL2
  have HP := Lib.hid (Ring.put_text R t.data.toList f n hf (by rw [← Lib.size_eq]; omega))
  clear hL1 hL2 hlist
  go_enter Try.func131, Try.ntmps131
  go_wp2_with fail
  refine (room_any H.out).mono ?_
  rintro e w' ⟨rfl, rfl⟩
  rw [hn.out]
  go_upto_region 4 with fail
  rw [← HTT.out]
  clear hne'
  go_quiet (fail)
  clear hrem
  go_wp2_with (((with_reducible refine wpList_copy_str rfl _ (.tmp 37) 97 9 rfl 5 Try.underlying97 (by kernel_rfl) g T (R.length - T) (R.length - T) rfl t rfl R 5 (hq.row.drewN _) (by omega) D HD.out ?_); intro w1 hB1 hT1; have hQ1 := (hq.head.drewN _).touch hT1 hbg; have hd0 : w1.cell? ⟨b, 0, none⟩ = some (.slice (some ⟨g, 0, none⟩) R.length R.length) := hQ1.cell 0; have hd2 : w1.cell? ⟨b, 2, none⟩ = some (.int .i64 n) := hQ1.cell 2; have hfz : w1.frozen? ⟨b, 2, none⟩ = false := hQ1.froz 2))
  go_region_law ((with_reducible refine step_copy_str rfl (.tmp 42) (.tmp 45) 97 9 rfl 5 Try.underlying97 (by kernel_rfl) g 0 R.length R.length rfl (t.extract D t.size) rfl _ 5 hB1.drew HL1.out (t.size - D) HZ.out ?_); intro w2 hB2 hT2)
  have hQ2 := hQ1.drew.touch hT2 hbg
  have hd2' : w2.cell? ⟨b, 2, none⟩ = some (.int .i64 n) := hQ2.cell 2
  have hfz' : w2.frozen? ⟨b, 2, none⟩ = false := hQ2.froz 2
  have HB2 := Lib.hid hB2
  clear hB2
  go_wp2_with fail
  go_ret
  rw [show (n : Int) + (t.size : Int) = ((n + t.size : Nat) : Int) from by omega]
  refine ⟨ret_int (by omega), ⟨_, f, n + t.size, IsQ.put hQ2 HB2.out HL2.out hf (by omega) hm, HL2.out, ?_⟩, ?_⟩
  · have hp := HP.out
    rw [← HT.out] at hp
    rw [HE.out, Lib.size_eq]
    exact hp
  · refine Touch.setCell ?_ (.inl rfl) _
    exact ((((Touch.refl _ w).drewN _).trans (hT1.mono fun _ _ h => .inr h)).drew).trans (hT2.mono fun _ _ h => .inr h)
set_option maxHeartbeats 1000000 in
theorem put_none {w : World} {b g f n : Nat} {R : List UInt8} (hq : IsQ w b g R f n) (s : ByteArray) (hs : s.size ≤ 9223372036854775807) (h : s.size ≤ 0 ∨ R.length ≤ n) :
    Calls Try.prog 131 #[.pointer (some ⟨b, 0, none⟩), .string s] w fun e w' => e = .returned (.int .i64 0) ∧ w = w' := by
  have H := Lib.hid (show Que w b g R.length (Ring.text R f n) from ⟨R, f, n, hq, rfl, rfl⟩)
  have hl := hq.le
  have hm := hq.most
  have hn := Lib.hid (Que.len hq)
  by_cases h0 : s.size ≤ R.length - n
  · have he : s = ByteArray.empty := by apply ByteArray.ext; exact Array.eq_empty_of_size_eq_zero (by have : s.data.size = s.size := rfl; omega)
    have hne : s.toList.isEmpty = true := by rw [he, ← decide_eq_emptyBytes]; simp
    clear he hq
    go_enter Try.func131, Try.ntmps131
    go_wp2_with fail
    refine (room_any H.out).mono ?_
    rintro e w' ⟨rfl, rfl⟩
    rw [hn.out]
    go_wp2_with fail
    go_ret
    exact ⟨rfl, rfl⟩
  · have hr : R.length = n := by omega
    have he : s.extract 0 (R.length - n) = ByteArray.empty := by apply ByteArray.ext; exact Array.eq_empty_of_size_eq_zero (by have : (s.extract 0 (R.length - n)).data.size = (s.extract 0 (R.length - n)).size := rfl; rw [this, ByteArray.size_extract]; omega)
    rw [hr, Nat.sub_self] at he
    have hne : (s.extract 0 0).toList.isEmpty = true := by rw [he, ← decide_eq_emptyBytes]; simp
    have HR := Lib.hid hr
    clear he hq hr h
    rw [HR.out] at h0 hl hm H
    go_enter Try.func131, Try.ntmps131
    go_wp2_with fail
    refine (room_any H.out).mono ?_
    rintro e w' ⟨rfl, rfl⟩
    rw [hn.out]
    go_wp2_with fail
    go_ret
    exact ⟨rfl, rfl⟩
/-- PUT: as many go in as there is room for. -/
theorem put_any {w : World} {b g most : Nat} {S : List UInt8} (h : Que w b g most S) (s : ByteArray) (hs : s.size ≤ 9223372036854775807) :
    Calls Try.prog 131 #[.pointer (some ⟨b, 0, none⟩), .string s] w fun e w' =>
      e = .returned (.int .i64 (min s.size (most - S.length) : Nat)) ∧ Que w' b g most (S ++ s.data.toList.take (most - S.length)) ∧ Touch (fun i => i = b ∨ i = g) w w' := by
  obtain ⟨R, f, n, hq, rfl, rfl⟩ := h
  rw [Que.len hq]
  have hsl : s.data.toList.length = s.size := (Lib.size_eq s).symm
  by_cases h0 : s.size ≤ 0 ∨ R.length ≤ n
  · refine (put_none hq s hs h0).mono ?_
    rintro e w' ⟨rfl, rfl⟩
    refine ⟨ret_int (by omega), ⟨R, f, n, hq, rfl, ?_⟩, Touch.refl _ _⟩
    rw [List.eq_nil_of_length_eq_zero (l := List.take (R.length - n) s.data.toList) (by rw [List.length_take]; omega), List.append_nil]
  by_cases h1 : s.size ≤ R.length - n
  · refine (put_all hq s hs h1 (by omega)).mono ?_
    rintro e w' ⟨rfl, hQ, hT⟩
    refine ⟨ret_int (by omega), ?_, hT⟩
    rw [List.take_of_length_le (by omega)]
    exact hQ
  · refine (put_part hq s _ rfl hs h1 (by omega)).mono ?_
    rintro e w' ⟨rfl, hQ, hT⟩
    have hz : (s.extract 0 (R.length - n)).size = R.length - n := by rw [ByteArray.size_extract]; omega
    refine ⟨ret_int (by rw [hz]; omega), ?_, hT⟩
    have : (s.extract 0 (R.length - n)).data.toList = s.data.toList.take (R.length - n) := by
      rw [ByteArray.data_extract, Array.toList_extract]
      rw [List.extract_eq_take_drop]
      simp
    rw [← this]
    exact hQ
/-- A queue that is none, or a zero one. -/
def Nought (w : World) (p : Option Addr) : Prop := p = none ∨ ∃ b, p = some ⟨b, 0, none⟩ ∧ Blk w b #[.slice none 0 0, .int .i64 0, .int .i64 0] 136
theorem len_nought {w : World} {p : Option Addr} (h : Nought w p) : Calls Try.prog 76 #[.pointer p] w fun e w' => e = .returned (.int .i64 0) ∧ w = w' := by
  rcases h with rfl | ⟨b, rfl, hb⟩
  · exact len_nil w
  · have hc : w.cell? ⟨b, 2, none⟩ = some (.int .i64 0) := hb.cell 2
    clear hb
    go_enter Try.func76, Try.ntmps76
    go_wp2
    go_ret
    exact ⟨rfl, rfl⟩
theorem most_nought {w : World} {p : Option Addr} (h : Nought w p) : Calls Try.prog 168 #[.pointer p] w fun e w' => e = .returned (.int .i64 0) ∧ w = w' := by
  rcases h with rfl | ⟨b, rfl, hb⟩
  · exact most_nil w
  · have hc : w.cell? ⟨b, 0, none⟩ = some (.slice none 0 0) := hb.cell 0
    clear hb
    go_enter Try.func168, Try.ntmps168
    go_wp2
    go_ret
    exact ⟨rfl, rfl⟩
theorem room_nought {w : World} {p : Option Addr} (h : Nought w p) : Calls Try.prog 152 #[.pointer p] w fun e w' => e = .returned (.int .i64 0) ∧ w = w' := by
  have H := Lib.hid h
  clear h
  go_enter Try.func152, Try.ntmps152
  go_wp2_with fail
  refine (most_nought H.out).mono ?_
  rintro e w' ⟨rfl, rfl⟩
  go_wp2_with fail
  refine (len_nought H.out).mono ?_
  rintro e w' ⟨rfl, rfl⟩
  go_wp2_with fail
  go_ret
  exact ⟨rfl, rfl⟩
theorem peek_nought {w : World} {p : Option Addr} (h : Nought w p) (k : Int) (hk : 1 ≤ k) : Calls Try.prog 75 #[.pointer p, .int .i64 k] w fun e w' => e = .returned (.string ⟨#[]⟩) ∧ w = w' := by
  have H := Lib.hid h
  clear h
  go_enter Try.func75, Try.ntmps75
  go_wp2_with fail
  refine (len_nought H.out).mono ?_
  rintro e w' ⟨rfl, rfl⟩
  go_wp2_with fail
  go_ret
  exact ⟨rfl, rfl⟩
theorem take_nought {w : World} {p : Option Addr} (h : Nought w p) (k : Int) (hk : 1 ≤ k) : Calls Try.prog 110 #[.pointer p, .int .i64 k] w fun e w' => e = .returned (.string ⟨#[]⟩) ∧ w = w' := by
  have H := Lib.hid h
  clear h
  go_enter Try.func110, Try.ntmps110
  go_wp2_with fail
  refine (peek_nought H.out k hk).mono ?_
  rintro e w' ⟨rfl, rfl⟩
  go_wp2_with fail
  go_ret
  exact ⟨rfl, rfl⟩
theorem put_nought {w : World} {p : Option Addr} (h : Nought w p) (s : ByteArray) (hs : 1 ≤ s.size) : Calls Try.prog 131 #[.pointer p, .string s] w fun e w' => e = .returned (.int .i64 0) ∧ w = w' := by
  have H := Lib.hid h
  clear h
  have he : s.extract 0 0 = ByteArray.empty := by apply ByteArray.ext; exact Array.eq_empty_of_size_eq_zero (by have : (s.extract 0 0).data.size = (s.extract 0 0).size := rfl; rw [this, ByteArray.size_extract]; omega)
  have hne : (s.extract 0 0).toList.isEmpty = true := by rw [he, ← decide_eq_emptyBytes]; simp
  clear he
  go_enter Try.func131, Try.ntmps131
  go_wp2_with fail
  refine (room_nought H.out).mono ?_
  rintro e w' ⟨rfl, rfl⟩
  go_wp2_with fail
  go_ret
  exact ⟨rfl, rfl⟩
end Go.Proofs.Ytekbmefdaepgcaa
