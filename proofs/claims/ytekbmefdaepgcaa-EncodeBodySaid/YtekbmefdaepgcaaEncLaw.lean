/- The law EncodeBody: it answers true. -/
import Derived.Test.YtekbmefdaepgcaaEncRef
namespace Go.Proofs.Ytekbmefdaepgcaa
open Go.RowKit
theorem begin_small (m : Nat) (h1 : 1 ≤ m) (h2 : m < 16) : beginB m = ⟨#[figD m, 13, 10]⟩ := by
  unfold beginB clineB hexB
  rw [if_neg (by omega), if_neg (by omega), if_neg (by omega), show ((m : Int)).natAbs = m from rfl, figL_low h2]
  rfl
def abcS : ByteArray := ⟨#[97, 98, 99]⟩
def abcR : ByteArray := ⟨#[50, 13, 10, 97, 98, 13, 10, 49, 13, 10, 99, 13, 10, 48, 13, 10, 13, 10]⟩
theorem abc_res : bodyRes 2 0 [2, 1] abcS [] = (abcR, 0) := by
  have h1 : cutF [2, 1] (abcS.size : Int) = some 0 := by decide
  have h2 : cutP abcS [2, 1] 2 = [⟨#[97, 98]⟩, ⟨#[99]⟩] := by decide +kernel
  have h3 : chunksL [⟨#[97, 98]⟩, ⟨#[99]⟩] = ⟨#[50, 13, 10, 97, 98, 13, 10, 49, 13, 10, 99, 13, 10]⟩ := by
    show (⟨#[]⟩ ++ (beginB ((2 : Nat) : Int) ++ ⟨#[97, 98]⟩ ++ crlf)) ++ (beginB ((1 : Nat) : Int) ++ ⟨#[99]⟩ ++ crlf) = _
    rw [begin_small 2 (by decide) (by decide), begin_small 1 (by decide) (by decide)]
    rfl
  unfold bodyRes
  rw [if_neg (by decide), if_neg (by decide), if_neg (by rw [h1]; simp), if_neg (by decide), show ([2, 1] : List Int).length = 2 from rfl, h2, h3]
  rfl
theorem nil_fds (w : World) : Fds w none 0 [] := ⟨rfl, fun h => absurd h (by omega)⟩
theorem two_ints (w : World) : Ints (w.alloc (.cells #[.int .i64 2, .int .i64 1] 3)) (some ⟨w.heap.size, 0, none⟩) 2 [2, 1] := by
  have hb := Blk.new w #[.int .i64 2, .int .i64 1] 3
  refine ⟨rfl, fun _ => ⟨w.heap.size, 0, rfl, by simp, fun i n hn => ?_⟩⟩
  match i, hn with
  | 0, hn =>
    obtain rfl : 2 = n := by simpa using hn
    exact ⟨hb.cell 0, by decide, by decide⟩
  | 1, hn =>
    obtain rfl : 1 = n := by simpa using hn
    exact ⟨hb.cell 1, by decide, by decide⟩
  | i + 2, hn => simp at hn
theorem end_any (w : World) : Calls Try.prog 46 #[] w fun e w' => e = .returned (.string ⟨#[13, 10]⟩) ∧ w = w' := by
  go_enter Try.func46, Try.ntmps46
  go_wp2_with fail
  go_ret
  exact ⟨rfl, rfl⟩
set_option maxHeartbeats 1000000 in
theorem lives25 (w : World) : Calls Try.prog 9 #[] w fun e w' => e = .returned (.bool true) ∧ Below w.heap.size w w' := by
  have HC : Hid (Calls Try.prog 10 #[.agg #[.int .i64 2, .int .i64 0], .slice (some ⟨w.heap.size, 0, none⟩) 2 2, .string ⟨#[97, 98, 99]⟩, .slice none 0 0] (w.alloc (.cells #[.int .i64 2, .int .i64 1] 3)) fun o w' => o = .returned (.tuple #[.string ⟨#[50, 13, 10, 97, 98, 13, 10, 49, 13, 10, 99, 13, 10, 48, 13, 10, 13, 10]⟩, .int .i64 0]) ∧ Below (w.alloc (.cells #[.int .i64 2, .int .i64 1] 3)).heap.size (w.alloc (.cells #[.int .i64 2, .int .i64 1] 3)) w') :=
    body_any (two_ints w) (nil_fds _) (by decide) (by decide) (by decide) (fun g hg => by cases hg) abc_res
  have HE := Lib.hid end_any
  go_enter Try.func9, Try.ntmps9
  go_wp2_with fail
  refine HC.out.mono ?_
  rintro e' w1 ⟨rfl, hb⟩
  have HB : Hid (Below w.heap.size w w1) := ((Below.refl _ _).alloc (Nat.le_refl _) _).trans (hb.mono (by simp))
  clear hb
  go_wp2_with fail
  refine (HE.out _).mono ?_
  rintro e' w2 ⟨rfl, rfl⟩
  go_wp2_with fail
  go_ret
  exact ⟨rfl, HB.out⟩
set_option maxHeartbeats 2000000 in
theorem enc_a {w : World} {Az At : Option Addr} {lz cz lt ct : Nat} {k n : Int} {z : List Int} {s : ByteArray} {l : List Fld} {c0 c1 c2 c3 c4 c5 c6 c7 c9 : Value} (hz : Ints w Az lz z) (ht : Fds w At lt l) (h1 : 2000 < s.size) : Calls Try.prog 3 #[.agg #[.int .i64 k, .int .i64 n], .slice Az lz cz, .agg #[c0, c1, c2, c3, c4, c5, c6, c7, .string s, c9, .slice At lt ct]] w fun e w' => e = .returned (.bool true) ∧ Below w.heap.size w w' := by
  have d1 : (2000 : Int) < s.size := by omega
  obtain ⟨w2, hw2⟩ : ∃ w2, w2 = ((w.alloc (.cells #[.int .i64 k, .int .i64 n] 23)).alloc (.cells #[c0, c1, c2, c3, c4, c5, c6, c7, .string s, c9, .slice At lt ct] 29)) := ⟨_, rfl⟩
  have KF : Hid (Blk w2 w.heap.size #[.int .i64 k, .int .i64 n] 23) := by show Blk _ _ _ _; rw [hw2]; exact (Blk.new _ _ _).alloc _
  have KM : Hid (Blk w2 (w.heap.size + 1) #[c0, c1, c2, c3, c4, c5, c6, c7, .string s, c9, .slice At lt ct] 29) := by show Blk _ _ _ _; rw [hw2]; exact Blk.new' (by simp)
  have HB : Hid (Below w.heap.size w w2) := by show Below _ _ _; rw [hw2]; exact (((Below.refl _ _).alloc (Nat.le_refl _) _).alloc (by simp) _)
  have c8' : w2.cell? ⟨w.heap.size + 1, 8, none⟩ = some (.string s) := KM.out.cell 8
  have c10' : w2.cell? ⟨w.heap.size + 1, 10, none⟩ = some (.slice At lt ct) := KM.out.cell 10
  have HW := Lib.hid hw2
  have HZ := Lib.hid hz
  have HT := Lib.hid ht
  clear hw2 hz ht h1
  go_enter Try.func3, Try.ntmps3
  go_wp2_with fail
  rw [← HW.out]
  go_quiet (fail)
  go_wp2_with fail
  refine (lives25 _).mono ?_
  rintro e' w4 ⟨rfl, hb⟩
  have HL := Lib.hid hb
  clear hb
  go_wp2_with fail
  go_ret
  have hd := (HB.out.trans (⟨rfl, rfl, rfl, Nat.le_refl _, fun _ _ => rfl⟩ : Below w.heap.size w2 (w2.drewN nq)))
  exact ⟨rfl, hd.trans (HL.out.mono hd.size)⟩
set_option maxHeartbeats 2000000 in
theorem enc_b {w : World} {Az At : Option Addr} {lz cz lt ct : Nat} {k n : Int} {z : List Int} {s : ByteArray} {l : List Fld} {c0 c1 c2 c3 c4 c5 c6 c7 c9 : Value} (hz : Ints w Az lz z) (ht : Fds w At lt l) (h1 : s.size ≤ 2000) (h2 : 300 < lz) : Calls Try.prog 3 #[.agg #[.int .i64 k, .int .i64 n], .slice Az lz cz, .agg #[c0, c1, c2, c3, c4, c5, c6, c7, .string s, c9, .slice At lt ct]] w fun e w' => e = .returned (.bool true) ∧ Below w.heap.size w w' := by
  have d1 : decide ((2000 : Int) < s.size) = false := by rw [decide_eq_false_iff_not]; omega
  have d2 : (300 : Int) < lz := by omega
  obtain ⟨w2, hw2⟩ : ∃ w2, w2 = ((w.alloc (.cells #[.int .i64 k, .int .i64 n] 23)).alloc (.cells #[c0, c1, c2, c3, c4, c5, c6, c7, .string s, c9, .slice At lt ct] 29)) := ⟨_, rfl⟩
  have KF : Hid (Blk w2 w.heap.size #[.int .i64 k, .int .i64 n] 23) := by show Blk _ _ _ _; rw [hw2]; exact (Blk.new _ _ _).alloc _
  have KM : Hid (Blk w2 (w.heap.size + 1) #[c0, c1, c2, c3, c4, c5, c6, c7, .string s, c9, .slice At lt ct] 29) := by show Blk _ _ _ _; rw [hw2]; exact Blk.new' (by simp)
  have HB : Hid (Below w.heap.size w w2) := by show Below _ _ _; rw [hw2]; exact (((Below.refl _ _).alloc (Nat.le_refl _) _).alloc (by simp) _)
  have c8' : w2.cell? ⟨w.heap.size + 1, 8, none⟩ = some (.string s) := KM.out.cell 8
  have c10' : w2.cell? ⟨w.heap.size + 1, 10, none⟩ = some (.slice At lt ct) := KM.out.cell 10
  have HW := Lib.hid hw2
  have HZ := Lib.hid hz
  have HT := Lib.hid ht
  clear hw2 hz ht h1 h2
  go_enter Try.func3, Try.ntmps3
  go_wp2_with fail
  rw [← HW.out]
  go_quiet (fail)
  go_wp2_with fail
  refine (lives25 _).mono ?_
  rintro e' w4 ⟨rfl, hb⟩
  have HL := Lib.hid hb
  clear hb
  go_wp2_with fail
  go_ret
  have hd := (HB.out.trans (⟨rfl, rfl, rfl, Nat.le_refl _, fun _ _ => rfl⟩ : Below w.heap.size w2 (w2.drewN nq)))
  exact ⟨rfl, hd.trans (HL.out.mono hd.size)⟩
set_option maxHeartbeats 2000000 in
theorem enc_c {w : World} {Az At : Option Addr} {lz cz lt ct : Nat} {k n : Int} {z : List Int} {s : ByteArray} {l : List Fld} {c0 c1 c2 c3 c4 c5 c6 c7 c9 : Value} (hz : Ints w Az lz z) (ht : Fds w At lt l) (hlt : lt ≤ 9223372036854775807) (h1 : s.size ≤ 2000) (h2 : lz ≤ 300) (h3 : fewF l = false) : Calls Try.prog 3 #[.agg #[.int .i64 k, .int .i64 n], .slice Az lz cz, .agg #[c0, c1, c2, c3, c4, c5, c6, c7, .string s, c9, .slice At lt ct]] w fun e w' => e = .returned (.bool true) ∧ Below w.heap.size w w' := by
  have d1 : decide ((2000 : Int) < s.size) = false := by rw [decide_eq_false_iff_not]; omega
  have d2 : decide ((300 : Int) < lz) = false := by rw [decide_eq_false_iff_not]; omega
  obtain ⟨w2, hw2⟩ : ∃ w2, w2 = ((w.alloc (.cells #[.int .i64 k, .int .i64 n] 23)).alloc (.cells #[c0, c1, c2, c3, c4, c5, c6, c7, .string s, c9, .slice At lt ct] 29)) := ⟨_, rfl⟩
  have KF : Hid (Blk w2 w.heap.size #[.int .i64 k, .int .i64 n] 23) := by show Blk _ _ _ _; rw [hw2]; exact (Blk.new _ _ _).alloc _
  have KM : Hid (Blk w2 (w.heap.size + 1) #[c0, c1, c2, c3, c4, c5, c6, c7, .string s, c9, .slice At lt ct] 29) := by show Blk _ _ _ _; rw [hw2]; exact Blk.new' (by simp)
  have HB : Hid (Below w.heap.size w w2) := by show Below _ _ _; rw [hw2]; exact (((Below.refl _ _).alloc (Nat.le_refl _) _).alloc (by simp) _)
  have c8' : w2.cell? ⟨w.heap.size + 1, 8, none⟩ = some (.string s) := KM.out.cell 8
  have c10' : w2.cell? ⟨w.heap.size + 1, 10, none⟩ = some (.slice At lt ct) := KM.out.cell 10
  have HW := Lib.hid hw2
  have HZ := Lib.hid hz
  have HT := Lib.hid ht
  have H3 := Lib.hid h3
  clear hw2 hz ht h1 h2 h3
  go_enter Try.func3, Try.ntmps3
  go_wp2_with fail
  rw [← HW.out]
  go_quiet (fail)
  go_wp2_with fail
  have hd := (HB.out.trans (⟨rfl, rfl, rfl, Nat.le_refl _, fun _ _ => rfl⟩ : Below w.heap.size w2 (w2.drewN nq)))
  have HD := Lib.hid hd
  clear hd
  refine (few_any (cap := ct) (HT.out.below HD.out) hlt).mono ?_
  rw [H3.out]
  rintro e' w3 ⟨rfl, hb⟩
  have HB3 := Lib.hid (HD.out.trans (hb.mono HD.out.size))
  clear hb
  go_wp2_with fail
  refine (lives25 _).mono ?_
  rintro e' w4 ⟨rfl, hb⟩
  have HL := Lib.hid hb
  clear hb
  go_wp2_with fail
  go_ret
  exact ⟨rfl, HB3.out.trans (HL.out.mono HB3.out.size)⟩
set_option maxHeartbeats 4000000 in
theorem enc_d {w : World} {Az At : Option Addr} {lz cz lt ct : Nat} {k n : Int} {z : List Int} {s : ByteArray} {l : List Fld} {c0 c1 c2 c3 c4 c5 c6 c7 c9 : Value} (hz : Ints w Az lz z) (ht : Fds w At lt l) (hlt : lt ≤ 9223372036854775807) (hn1 : -9223372036854775808 ≤ n) (hn2 : n ≤ 9223372036854775807) (h1 : s.size ≤ 2000) (h2 : lz ≤ 300) (h3 : fewF l = true) : Calls Try.prog 3 #[.agg #[.int .i64 k, .int .i64 n], .slice Az lz cz, .agg #[c0, c1, c2, c3, c4, c5, c6, c7, .string s, c9, .slice At lt ct]] w fun e w' => e = .returned (.bool true) ∧ Below w.heap.size w w' := by
  have d1 : decide ((2000 : Int) < s.size) = false := by rw [decide_eq_false_iff_not]; omega
  have d2 : decide ((300 : Int) < lz) = false := by rw [decide_eq_false_iff_not]; omega
  obtain ⟨w2, hw2⟩ : ∃ w2, w2 = ((w.alloc (.cells #[.int .i64 k, .int .i64 n] 23)).alloc (.cells #[c0, c1, c2, c3, c4, c5, c6, c7, .string s, c9, .slice At lt ct] 29)) := ⟨_, rfl⟩
  have KF : Hid (Blk w2 w.heap.size #[.int .i64 k, .int .i64 n] 23) := by show Blk _ _ _ _; rw [hw2]; exact (Blk.new _ _ _).alloc _
  have KM : Hid (Blk w2 (w.heap.size + 1) #[c0, c1, c2, c3, c4, c5, c6, c7, .string s, c9, .slice At lt ct] 29) := by show Blk _ _ _ _; rw [hw2]; exact Blk.new' (by simp)
  have HB : Hid (Below w.heap.size w w2) := by show Below _ _ _; rw [hw2]; exact (((Below.refl _ _).alloc (Nat.le_refl _) _).alloc (by simp) _)
  have c8' : w2.cell? ⟨w.heap.size + 1, 8, none⟩ = some (.string s) := KM.out.cell 8
  have c10' : w2.cell? ⟨w.heap.size + 1, 10, none⟩ = some (.slice At lt ct) := KM.out.cell 10
  have HW := Lib.hid hw2
  have HZ := Lib.hid hz
  have HT := Lib.hid ht
  have H3 := Lib.hid h3
  have hf := few_spec h3
  have hlt2 : lt ≤ 1000 := by have := ht.1; omega
  obtain ⟨R, e, hr⟩ : ∃ R e, bodyRes k n z s l = (R, e) := ⟨_, _, rfl⟩
  have H1 : Hid (∀ W : World, Below w.heap.size w W → Calls Try.prog 10 #[.agg #[.int .i64 k, .int .i64 n], .slice Az lz cz, .string s, .slice At lt ct] W fun o w' => o = .returned (.tuple #[.string R, .int .i64 e]) ∧ Below W.heap.size W w') :=
    fun W hW => body_any (hz.below hW) (ht.below hW) (by omega) (by omega) hlt2 hf.2 hr
  have H2 : Hid (∀ W : World, Below w.heap.size w W → Calls Try.prog 11 #[.agg #[.int .i64 k, .int .i64 n], .slice Az lz cz, .string s, .slice At lt ct] W fun o w' => o = .returned (.tuple #[.string R, .int .i64 e]) ∧ Below W.heap.size W w') :=
    fun W hW => rbody_any (hz.below hW) (ht.below hW) (by omega) (by omega) hlt2 hf.2 hr
  obtain ⟨G, hG⟩ : ∃ G, G = beginB n := ⟨_, rfl⟩
  have H4 : Hid (∀ W : World, Calls Try.prog 12 #[.int .i64 n] W fun e w' => e = .returned (.string G) ∧ Below W.heap.size W w') := fun W => by rw [hG]; exact begin_any n hn1 hn2 W
  have H5 : Hid (∀ W : World, Calls Try.prog 13 #[.int .i64 n] W fun e w' => e = .returned (.string G) ∧ Below W.heap.size W w') := fun W => by rw [hG]; exact rbegin_any n hn1 hn2 W
  obtain ⟨L, hL⟩ : ∃ L, L = lastB l := ⟨_, rfl⟩
  have H6 : Hid (∀ W : World, Below w.heap.size w W → Calls Try.prog 14 #[.slice At lt ct] W fun e w' => e = .returned (.string L) ∧ Below W.heap.size W w') := fun W hW => by rw [hL]; exact last_any (ht.below hW) hlt2 hf.2
  have H7 : Hid (∀ W : World, Below w.heap.size w W → Calls Try.prog 15 #[.slice At lt ct] W fun e w' => e = .returned (.string L) ∧ Below W.heap.size W w') := fun W hW => by rw [hL]; exact rlast_any (ht.below hW) hlt2 hf.2
  have H8 := Lib.hid lives25
  have eR : (R.toList == R.toList) = true := by simp
  have eG : (G.toList == G.toList) = true := by simp
  have eL : (L.toList == L.toList) = true := by simp
  have ee : (e == e) = true := by simp
  clear hw2 hz ht h1 h2 h3 hr hf hG hL
  go_enter Try.func3, Try.ntmps3
  go_wp2_with fail
  rw [← HW.out]
  go_quiet (fail)
  go_wp2_with fail
  have hd := (HB.out.trans (⟨rfl, rfl, rfl, Nat.le_refl _, fun _ _ => rfl⟩ : Below w.heap.size w2 (w2.drewN nq)))
  have HD := Lib.hid hd
  have KF1 : Hid (Blk (w2.drewN nq) w.heap.size #[.int .i64 k, .int .i64 n] 23) := KF.out.drewN nq
  clear hd
  refine (few_any (cap := ct) (HT.out.below HD.out) hlt).mono ?_
  rw [H3.out]
  rintro e' w3 ⟨rfl, hb⟩
  have HB3 := Lib.hid (HD.out.trans (hb.mono HD.out.size))
  have KF3 := Lib.hid (KF1.out.call hb)
  have f0 : w3.cell? ⟨w.heap.size, 0, none⟩ = some (.int .i64 k) := KF3.out.cell 0
  have f1 : w3.cell? ⟨w.heap.size, 1, none⟩ = some (.int .i64 n) := KF3.out.cell 1
  clear hb
  go_wp2_with fail
  refine (H1.out _ HB3.out).mono ?_
  rintro e' w4 ⟨rfl, hb⟩
  have HB4 := Lib.hid (HB3.out.trans (hb.mono HB3.out.size))
  have KF4 := Lib.hid (KF3.out.call hb)
  clear f0 f1
  have f0 : w4.cell? ⟨w.heap.size, 0, none⟩ = some (.int .i64 k) := KF4.out.cell 0
  have f1 : w4.cell? ⟨w.heap.size, 1, none⟩ = some (.int .i64 n) := KF4.out.cell 1
  clear hb
  go_wp2_with fail
  refine (H2.out _ HB4.out).mono ?_
  rintro e' w5 ⟨rfl, hb⟩
  have HB5 := Lib.hid (HB4.out.trans (hb.mono HB4.out.size))
  have KF5 := Lib.hid (KF4.out.call hb)
  clear f0 f1 hb
  obtain ⟨I, hIe⟩ : ∃ I : World → Prop, I = fun x => Blk x w.heap.size #[.int .i64 k, .int .i64 n] 23 ∧ Below w.heap.size w x := ⟨_, rfl⟩
  have HIO := Lib.hid (show ∀ x, I x → Blk x w.heap.size #[.int .i64 k, .int .i64 n] 23 ∧ Below w.heap.size w x by rw [hIe]; exact fun _ h => h)
  have HIM : Hid (∀ x x', I x → Below x.heap.size x x' → I x') := by
    show ∀ x x', I x → Below x.heap.size x x' → I x'
    rw [hIe]
    exact fun x x' h hb => ⟨h.1.call hb, h.2.trans (hb.mono h.2.size)⟩
  have hI0 : I w5.drew := by rw [hIe]; exact ⟨KF5.out.drew, HB5.out.drew⟩
  have NI : Nonempty (Cl I) := ⟨⟨_, hI0⟩⟩
  have HI0 := Lib.hid hI0
  have q1 : ∀ s : Cl I, s.val.cell? ⟨w.heap.size, 1, none⟩ = some (.int .i64 n) := fun s => (HIO.out _ s.ok).1.cell 1
  clear hIe hI0
  go_wp2_with fail
  refine wp_region_cl HI0.out (by kernel_rfl) (by kernel_rfl) ?_
  repeat go_big_quiet_step ((first
    | (go_at_call 12; exact Calls.cl_of ((H4.out _).mono fun _ _ ⟨a, b⟩ => ⟨a, HIM.out _ _ (Cl.ok _) b⟩))
    | (go_at_call 13; exact Calls.cl_of ((H5.out _).mono fun _ _ ⟨a, b⟩ => ⟨a, HIM.out _ _ (Cl.ok _) b⟩))
    | (go_at_call 14; exact Calls.cl_of ((H6.out _ (HIO.out _ (Cl.ok _)).2).mono fun _ _ ⟨a, b⟩ => ⟨a, HIM.out _ _ (Cl.ok _) b⟩))
    | (go_at_call 15; exact Calls.cl_of ((H7.out _ (HIO.out _ (Cl.ok _)).2).mono fun _ _ ⟨a, b⟩ => ⟨a, HIM.out _ _ (Cl.ok _) b⟩))
    | (go_at_call 9; exact Calls.cl_of ((H8.out _).mono fun _ _ ⟨a, b⟩ => ⟨a, HIM.out _ _ (Cl.ok _) b⟩))))
  refine wpQuiet_nil ?_
  rintro _ ⟨x, rfl⟩
  go_wp2_with fail
  go_ret
  exact ⟨rfl, (HIO.out _ x.ok).2⟩
theorem enc_all {w : World} {Az At : Option Addr} {lz cz lt ct : Nat} {k n : Int} {z : List Int} {s : ByteArray} {l : List Fld} {c0 c1 c2 c3 c4 c5 c6 c7 c9 : Value} (hz : Ints w Az lz z) (ht : Fds w At lt l) (hlt : lt ≤ 9223372036854775807) (hn1 : -9223372036854775808 ≤ n) (hn2 : n ≤ 9223372036854775807) : Calls Try.prog 3 #[.agg #[.int .i64 k, .int .i64 n], .slice Az lz cz, .agg #[c0, c1, c2, c3, c4, c5, c6, c7, .string s, c9, .slice At lt ct]] w fun e w' => e = .returned (.bool true) ∧ Below w.heap.size w w' := by
  by_cases h1 : s.size ≤ 2000
  · by_cases h2 : lz ≤ 300
    · cases h3 : fewF l
      · exact enc_c hz ht hlt h1 h2 h3
      · exact enc_d hz ht hlt hn1 hn2 h1 h2 h3
    · exact enc_b hz ht h1 (by omega)
  · exact enc_a hz ht (by omega)
end Go.Proofs.Ytekbmefdaepgcaa
