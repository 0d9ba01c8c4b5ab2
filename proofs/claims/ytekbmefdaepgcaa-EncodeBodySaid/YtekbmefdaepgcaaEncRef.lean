/- The reference's Body: what it answers for every frame, text, sizes and trailers, within bounds. -/
import Derived.Test.YtekbmefdaepgcaaEncBodyW
namespace Go.Proofs.Ytekbmefdaepgcaa
open Go.RowKit
theorem six_ways (k n : Int) (s : ByteArray) : k = 0 ∧ s.size = 0 ∨ k = 0 ∧ s.size ≠ 0 ∨ k = 1 ∧ n = s.size ∨ k = 1 ∧ n ≠ s.size ∨ k = 3 ∨ (k ≠ 0 ∧ k ≠ 1 ∧ k ≠ 3) := by
  by_cases h0 : k = 0
  · by_cases h : s.size = 0
    · exact .inl ⟨h0, h⟩
    · exact .inr (.inl ⟨h0, h⟩)
  · by_cases h1 : k = 1
    · by_cases h : n = s.size
      · exact .inr (.inr (.inl ⟨h1, h⟩))
      · exact .inr (.inr (.inr (.inl ⟨h1, h⟩)))
    · by_cases h3 : k = 3
      · exact .inr (.inr (.inr (.inr (.inl h3))))
      · exact .inr (.inr (.inr (.inr (.inr ⟨h0, h1, h3⟩))))
set_option maxHeartbeats 4000000 in
theorem rbody_neg {w : World} {Az At : Option Addr} {lz cz lt ct : Nat} {k n : Int} {z : List Int} {s : ByteArray} {l : List Fld} (hz : Ints w Az lz z) (ht : Fds w At lt l) (hs : s.size ≤ 1000000) (hlz : lz ≤ 1000) (hlt : lt ≤ 1000) (hls : ∀ g ∈ l, g.1.size ≤ 1000 ∧ g.2.size ≤ 1000) (h0 : n < 0) : Calls Try.prog 11 #[.agg #[.int .i64 k, .int .i64 n], .slice Az lz cz, .string s, .slice At lt ct] w fun o w' => o = .returned (.tuple #[.string (⟨#[]⟩), .int .i64 14]) ∧ Below w.heap.size w w' := by
  have hw := six_ways k n s
  clear hz ht hs hlz hlt hls
  rcases hw with ⟨rfl, h1⟩ | ⟨rfl, h1⟩ | ⟨rfl, rfl⟩ | ⟨rfl, h1⟩ | rfl | ⟨h1, h2, h3⟩
  ·
    have he : s.toList.isEmpty = true := by rw [empty_list2]; exact decide_eq_true h1
    go_enter Try.func11, Try.ntmps11
    go_wp2_with fail
    go_ret2
    exact ⟨rfl, (Below.refl _ _).alloc (Nat.le_refl _) _⟩
  ·
    have he : s.toList.isEmpty = false := by rw [empty_list2]; exact decide_eq_false h1
    go_enter Try.func11, Try.ntmps11
    go_wp2_with fail
    go_ret2
    exact ⟨rfl, (Below.refl _ _).alloc (Nat.le_refl _) _⟩
  ·
    exact absurd h0 (by omega)
  ·
    have he : (n == (s.size : Int)) = false := by rw [beq_eq_false_iff_ne]; exact h1
    go_enter Try.func11, Try.ntmps11
    go_wp2_with fail
    go_ret2
    exact ⟨rfl, (Below.refl _ _).alloc (Nat.le_refl _) _⟩
  ·
    go_enter Try.func11, Try.ntmps11
    go_wp2_with fail
    go_ret2
    exact ⟨rfl, (Below.refl _ _).alloc (Nat.le_refl _) _⟩
  ·
    have he1 : (k == 0) = false := by rw [beq_eq_false_iff_ne]; exact h1
    have he2 : (k == 1) = false := by rw [beq_eq_false_iff_ne]; exact h2
    have he3 : (k == 3) = false := by rw [beq_eq_false_iff_ne]; exact h3
    go_enter Try.func11, Try.ntmps11
    go_wp2_with fail
    go_ret2
    exact ⟨rfl, (Below.refl _ _).alloc (Nat.le_refl _) _⟩
set_option maxHeartbeats 8000000 in
theorem rbody_plain_no {w : World} {Az At : Option Addr} {lz cz lt ct : Nat} {k n : Int} {z : List Int} {s : ByteArray} {l : List Fld} (hz : Ints w Az lz z) (ht : Fds w At lt l) (hs : s.size ≤ 1000000) (hlz : lz ≤ 1000) (hlt : lt ≤ 1000) (hls : ∀ g ∈ l, g.1.size ≤ 1000 ∧ g.2.size ≤ 1000) (h0 : 0 ≤ n) (hk : k ≠ 2) (h9 : (fitsB k n s && decide (lz + lt = 0)) = false) : Calls Try.prog 11 #[.agg #[.int .i64 k, .int .i64 n], .slice Az lz cz, .string s, .slice At lt ct] w fun o w' => o = .returned (.tuple #[.string (⟨#[]⟩), .int .i64 14]) ∧ Below w.heap.size w w' := by
  have n2 : (k == 2) = false := by rw [beq_eq_false_iff_ne]; exact hk
  have n3 : (k != 2) = true := by rw [bne_iff_ne]; exact hk
  have n4 : decide (n < 0) = false := by rw [decide_eq_false_iff_not]; omega
  have hw := six_ways k n s
  clear hz ht hs hls hk
  rcases hw with ⟨rfl, h1⟩ | ⟨rfl, h1⟩ | ⟨rfl, rfl⟩ | ⟨rfl, h1⟩ | rfl | ⟨h1, h2, h3⟩
  ·
    have he : s.toList.isEmpty = true := by rw [empty_list2]; exact decide_eq_true h1
    have hf : fitsB 0 n s = true := by unfold fitsB; simp [h1]
    rw [hf, Bool.true_and, decide_eq_false_iff_not] at h9
    have hx : 0 < lz ∨ (lz = 0 ∧ 0 < lt) := by omega
    clear h9 hf
    rcases hx with hx | ⟨rfl, hx⟩
    · have hx2 : (0 : Int) < lz := by omega
      clear hx
      go_enter Try.func11, Try.ntmps11
      go_wp2_with fail
      go_ret2
      exact ⟨rfl, (Below.refl _ _).alloc (Nat.le_refl _) _⟩
    · have hx2 : (0 : Int) < lt := by omega
      clear hx
      go_enter Try.func11, Try.ntmps11
      go_wp2_with fail
      go_ret2
      exact ⟨rfl, (Below.refl _ _).alloc (Nat.le_refl _) _⟩
  ·
    have he : s.toList.isEmpty = false := by rw [empty_list2]; exact decide_eq_false h1
    clear h9
    go_enter Try.func11, Try.ntmps11
    go_wp2_with fail
    go_ret2
    exact ⟨rfl, (Below.refl _ _).alloc (Nat.le_refl _) _⟩
  ·
    have hf : fitsB 1 (s.size : Int) s = true := by unfold fitsB; simp
    rw [hf, Bool.true_and, decide_eq_false_iff_not] at h9
    have hx : 0 < lz ∨ (lz = 0 ∧ 0 < lt) := by omega
    clear h9 hf
    rcases hx with hx | ⟨rfl, hx⟩
    · have hx2 : (0 : Int) < lz := by omega
      clear hx
      go_enter Try.func11, Try.ntmps11
      go_wp2_with fail
      go_ret2
      exact ⟨rfl, (Below.refl _ _).alloc (Nat.le_refl _) _⟩
    · have hx2 : (0 : Int) < lt := by omega
      clear hx
      go_enter Try.func11, Try.ntmps11
      go_wp2_with fail
      go_ret2
      exact ⟨rfl, (Below.refl _ _).alloc (Nat.le_refl _) _⟩
  ·
    have he : (n == (s.size : Int)) = false := by rw [beq_eq_false_iff_ne]; exact h1
    clear h9
    go_enter Try.func11, Try.ntmps11
    go_wp2_with fail
    go_ret2
    exact ⟨rfl, (Below.refl _ _).alloc (Nat.le_refl _) _⟩
  ·
    have hf : fitsB 3 n s = true := by unfold fitsB; simp
    rw [hf, Bool.true_and, decide_eq_false_iff_not] at h9
    have hx : 0 < lz ∨ (lz = 0 ∧ 0 < lt) := by omega
    clear h9 hf
    rcases hx with hx | ⟨rfl, hx⟩
    · have hx2 : (0 : Int) < lz := by omega
      clear hx
      go_enter Try.func11, Try.ntmps11
      go_wp2_with fail
      go_ret2
      exact ⟨rfl, (Below.refl _ _).alloc (Nat.le_refl _) _⟩
    · have hx2 : (0 : Int) < lt := by omega
      clear hx
      go_enter Try.func11, Try.ntmps11
      go_wp2_with fail
      go_ret2
      exact ⟨rfl, (Below.refl _ _).alloc (Nat.le_refl _) _⟩
  ·
    have he1 : (k == 0) = false := by rw [beq_eq_false_iff_ne]; exact h1
    have he2 : (k == 1) = false := by rw [beq_eq_false_iff_ne]; exact h2
    have he3 : (k == 3) = false := by rw [beq_eq_false_iff_ne]; exact h3
    clear h9
    go_enter Try.func11, Try.ntmps11
    go_wp2_with fail
    go_ret2
    exact ⟨rfl, (Below.refl _ _).alloc (Nat.le_refl _) _⟩
set_option maxHeartbeats 8000000 in
theorem rbody_plain_ok {w : World} {Az At : Option Addr} {lz cz lt ct : Nat} {k n : Int} {z : List Int} {s : ByteArray} {l : List Fld} (hz : Ints w Az lz z) (ht : Fds w At lt l) (hs : s.size ≤ 1000000) (hlz : lz ≤ 1000) (hlt : lt ≤ 1000) (hls : ∀ g ∈ l, g.1.size ≤ 1000 ∧ g.2.size ≤ 1000) (h0 : 0 ≤ n) (hk : k ≠ 2) (h9 : (fitsB k n s && decide (lz + lt = 0)) = true) : Calls Try.prog 11 #[.agg #[.int .i64 k, .int .i64 n], .slice Az lz cz, .string s, .slice At lt ct] w fun o w' => o = .returned (.tuple #[.string (s), .int .i64 0]) ∧ Below w.heap.size w w' := by
  have n2 : (k == 2) = false := by rw [beq_eq_false_iff_ne]; exact hk
  have n3 : (k != 2) = true := by rw [bne_iff_ne]; exact hk
  have n4 : decide (n < 0) = false := by rw [decide_eq_false_iff_not]; omega
  have hw := six_ways k n s
  clear hz ht hs hls hk
  rcases hw with ⟨rfl, h1⟩ | ⟨rfl, h1⟩ | ⟨rfl, rfl⟩ | ⟨rfl, h1⟩ | rfl | ⟨h1, h2, h3⟩
  ·
    have he : s.toList.isEmpty = true := by rw [empty_list2]; exact decide_eq_true h1
    have hx : lz = 0 ∧ lt = 0 := by
      rw [Bool.and_eq_true, decide_eq_true_eq] at h9
      omega
    obtain ⟨rfl, rfl⟩ := hx
    clear h9
    go_enter Try.func11, Try.ntmps11
    go_wp2_with fail
    go_ret2
    exact ⟨rfl, (Below.refl _ _).alloc (Nat.le_refl _) _⟩
  ·
    have he : s.toList.isEmpty = false := by rw [empty_list2]; exact decide_eq_false h1
    unfold fitsB at h9
    simp [h1] at h9
  ·
    have hx : lz = 0 ∧ lt = 0 := by
      rw [Bool.and_eq_true, decide_eq_true_eq] at h9
      omega
    obtain ⟨rfl, rfl⟩ := hx
    clear h9
    go_enter Try.func11, Try.ntmps11
    go_wp2_with fail
    go_ret2
    exact ⟨rfl, (Below.refl _ _).alloc (Nat.le_refl _) _⟩
  ·
    have he : (n == (s.size : Int)) = false := by rw [beq_eq_false_iff_ne]; exact h1
    unfold fitsB at h9
    simp [h1] at h9
  ·
    have hx : lz = 0 ∧ lt = 0 := by
      rw [Bool.and_eq_true, decide_eq_true_eq] at h9
      omega
    obtain ⟨rfl, rfl⟩ := hx
    clear h9
    go_enter Try.func11, Try.ntmps11
    go_wp2_with fail
    go_ret2
    exact ⟨rfl, (Below.refl _ _).alloc (Nat.le_refl _) _⟩
  ·
    have he1 : (k == 0) = false := by rw [beq_eq_false_iff_ne]; exact h1
    have he2 : (k == 1) = false := by rw [beq_eq_false_iff_ne]; exact h2
    have he3 : (k == 3) = false := by rw [beq_eq_false_iff_ne]; exact h3
    unfold fitsB at h9
    simp [h1, h2, h3] at h9
set_option maxHeartbeats 8000000 in
theorem rbody_two {w : World} {Az At : Option Addr} {lz cz lt ct : Nat} {k n : Int} {z : List Int} {s : ByteArray} {l : List Fld} (hz : Ints w Az lz z) (ht : Fds w At lt l) (hs : s.size ≤ 1000000) (hlz : lz ≤ 1000) (hlt : lt ≤ 1000) (hls : ∀ g ∈ l, g.1.size ≤ 1000 ∧ g.2.size ≤ 1000) (h0 : 0 ≤ n) {R : ByteArray} {e : Int} (hr : (if cutF z s.size ≠ some 0 then ((⟨#[]⟩ : ByteArray), (14 : Int)) else if badF l = true then (⟨#[]⟩, 7) else (chunksL (cutP s z z.length) ++ lastB l, 0)) = (R, e)) : Calls Try.prog 11 #[.agg #[.int .i64 2, .int .i64 n], .slice Az lz cz, .string s, .slice At lt ct] w fun o w' => o = .returned (.tuple #[.string (R), .int .i64 e]) ∧ Below w.heap.size w w' := by
  have n4 : decide (n < 0) = false := by rw [decide_eq_false_iff_not]; omega
  have HR := Lib.hid hr
  have HZ := Lib.hid hz
  have HT := Lib.hid ht
  have HLS := Lib.hid hls
  have HSZ := Lib.hid hs
  have hlen : z.length = lz := hz.1
  have hsi : (s.size : Int) ≤ 1000000 := by omega
  have HB : Hid (Below w.heap.size w (w.alloc (.cells #[.int .i64 2, .int .i64 n] 23))) := (Below.refl _ _).alloc (Nat.le_refl _) _
  clear hr hz ht hls hs h0
  go_enter Try.func11, Try.ntmps11
  go_wp2_with fail
  go_loopw [12, 11, 2] (fun i v u wr => ∃ j : Nat, j ≤ lz ∧ i = .int .i64 j ∧ v = .string (chunksL (cutP s z j)) ∧ u = .string (s.extract (offK z j) s.size) ∧ cutF (z.take j) s.size = some ((s.size : Int) - offK z j) ∧ offK z j ≤ s.size ∧ Below w.heap.size w wr) (fun i _ _ _ => lz - (intOf i).toNat)
  case atStart => exact ⟨0, by omega, rfl, rfl, by rw [offK_zero]; exact congrArg Value.string (bytes_whole s), by rw [offK_zero, List.take_zero]; simp [cutF], by rw [offK_zero]; omega, HB.out⟩
  case round =>
    obtain ⟨j, hj, rfl, rfl, rfl, hcut, hoff, hbel⟩ := hrel
    have HC := Lib.hid hcut
    have HL := Lib.hid hbel
    obtain ⟨S, hS⟩ : ∃ S, S = s.extract (offK z j) s.size := ⟨_, rfl⟩
    have hSs : S.size = s.size - offK z j := by rw [hS]; simp
    obtain ⟨O, hO⟩ : ∃ O, O = chunksL (cutP s z j) := ⟨_, rfl⟩
    have hOs : O.size ≤ 1000100 * 1000 := by
      have h1 := chunksL_size (cutP s z j) (fun q hq => by
        obtain ⟨u, _, rfl⟩ := List.mem_map.1 hq
        have := HSZ.out
        simp; omega)
      rw [cutP_length] at h1
      rw [hO]
      exact Nat.le_trans h1 (Nat.mul_le_mul_left _ (by omega))
    rw [← hS, ← hO]
    clear hcut hbel
    by_cases hlt2 : j < lz
    · obtain ⟨b, off, rfl, hbw, hc⟩ := HZ.out.2 (by omega)
      obtain ⟨m, hg⟩ : ∃ m, z[j]? = some m := ⟨z[j]'(by omega), List.getElem?_eq_getElem (by omega)⟩
      obtain ⟨c00, hm1, hm2⟩ := hc j m hg
      have c0 : wr.cell? ⟨b, off + j, none⟩ = some (.int .i64 m) := (HL.out.cell (p := ⟨b, off + j, none⟩) hbw).trans c00
      have hge : z[j]'(by omega) = m := by
        rw [List.getElem?_eq_getElem (by omega)] at hg
        exact Option.some.inj hg
      have HTK : Hid (z.take (j + 1) = z.take j ++ [m]) := by show _ = _; rw [List.take_succ_eq_append_getElem (by omega), hge]
      have HAP : Hid (z = z.take (j + 1) ++ z.drop (j + 1)) := (List.take_append_drop _ _).symm
      have hki : (j : Int) < lz := by omega
      have hli : (lz : Int) ≤ 1000 := by omega
      have hSi : (S.size : Int) = s.size - offK z j := by omega
      by_cases hx : m < 1 ∨ (S.size : Int) < m
      · have HN : Hid (cutF z s.size ≠ some 0) := by
          show cutF z s.size ≠ some 0
          rw [HAP.out, HTK.out, cutF_append, cutF_append, HC.out]
          show (((cutF [m] ((s.size : Int) - offK z j))).bind _) ≠ _
          rw [cutF, if_pos (by omega)]
          simp
        have hv := HR.out
        rw [if_pos HN.out] at hv
        obtain ⟨rfl, rfl⟩ := Prod.mk.inj hv
        clear hc c00 hg hge hbw hv hS hSs hO hOs hSi hoff
        rcases (by omega : m < 1 ∨ (1 ≤ m ∧ (S.size : Int) < m)) with hx1 | ⟨hx1, hx2⟩
        · clear hx
          go_wp2_with fail
          go_ret2
          exact ⟨rfl, HL.out⟩
        · have d1 : decide (m < 1) = false := by rw [decide_eq_false_iff_not]; omega
          clear hx
          go_wp2_with fail
          go_ret2
          exact ⟨rfl, HL.out⟩
      · have d1 : decide (m < 1) = false := by rw [decide_eq_false_iff_not]; omega
        have d2 : decide ((S.size : Int) < m) = false := by rw [decide_eq_false_iff_not]; omega
        have ho := offK_succ z hg
        obtain ⟨P, hP⟩ : ∃ P, P = s.extract (offK z j) (offK z (j + 1)) := ⟨_, rfl⟩
        have hPs : (P.size : Int) = m := by rw [hP]; simp; omega
        have s1 : ∀ W : World, (Instr.slice 9 (.string S) none (some (.int .i64 m)) none).run Try.prog W = .ok (.string P) W := fun W => by
          rw [run_slice_string_h W 9 S Try.underlying9 .i64 m (by omega) (by omega), hS, ByteArray.extract_extract, hP]
          congr 3
          omega
        have s2 : ∀ W : World, (Instr.slice 9 (.string S) (some (.int .i64 m)) none none).run Try.prog W = .ok (.string (s.extract (offK z (j + 1)) s.size)) W := fun W => by
          rw [run_slice_string_l W 9 S Try.underlying9 .i64 m (by omega) (by omega), hSs, hS, ByteArray.extract_extract]
          congr 3 <;> omega
        obtain ⟨G, hG⟩ : ∃ G, G = beginB m := ⟨_, rfl⟩
        have hGs : G.size ≤ 66 := by rw [hG]; exact beginB_size _ (by omega)
        have HG : Hid (∀ W : World, Calls Try.prog 13 #[.int .i64 m] W fun e w' => e = .returned (.string G) ∧ Below W.heap.size W w') := fun W => by rw [hG]; exact rbegin_any _ (by omega) (by omega) W
        obtain ⟨A1, hA1⟩ : ∃ A, A = O ++ G := ⟨_, rfl⟩
        have hA1s : A1.size = O.size + G.size := by rw [hA1, ByteArray.size_append]
        have a1 : ∀ W : World, (Op.stringOp .add O G).run Try.prog W = .ok (.string A1) W := fun W => (run_string_add_sum (P := Try.prog) (w := W) O G (by omega)).trans (by rw [← hA1])
        obtain ⟨A2, hA2⟩ : ∃ A, A = A1 ++ P := ⟨_, rfl⟩
        have hA2s : A2.size = A1.size + P.size := by rw [hA2, ByteArray.size_append]
        have a2 : ∀ W : World, (Op.stringOp .add A1 P).run Try.prog W = .ok (.string A2) W := fun W => (run_string_add_sum (P := Try.prog) (w := W) A1 P (by omega)).trans (by rw [← hA2])
        obtain ⟨A3, hA3⟩ : ∃ A, A = A2 ++ ⟨#[13, 10]⟩ := ⟨_, rfl⟩
        have a3 : ∀ W : World, (Op.stringOp .add A2 ⟨#[13, 10]⟩).run Try.prog W = .ok (.string A3) W := fun W => (run_string_add_sum (P := Try.prog) (w := W) A2 ⟨#[13, 10]⟩ (by show A2.size + 2 ≤ _; omega)).trans (by rw [← hA3])
        have HN : Hid (A3 = chunksL (cutP s z (j + 1))) := by
          show A3 = _
          rw [cutP_succ, chunksL_snoc, ← hP, ← hO, hA3, hA2, hA1, hG, hPs]
          simp only [ByteArray.append_assoc]
          rfl
        have HCN : Hid (cutF (z.take (j + 1)) s.size = some ((s.size : Int) - offK z (j + 1)) ∧ offK z (j + 1) ≤ s.size) := by
          show _ ∧ _
          refine ⟨?_, by omega⟩
          rw [HTK.out, cutF_append, HC.out]
          show cutF [m] _ = _
          rw [cutF, if_neg (by omega)]
          show some _ = some _
          congr 1
          omega
        obtain ⟨I, hIe⟩ : ∃ I : World → Prop, I = fun x => x.cell? ⟨b, off + j, none⟩ = some (.int .i64 m) ∧ Below w.heap.size w x := ⟨_, rfl⟩
        have HBW := Lib.hid hbw
        have HIO := Lib.hid (show ∀ x, I x → x.cell? ⟨b, off + j, none⟩ = some (.int .i64 m) ∧ Below w.heap.size w x by rw [hIe]; exact fun _ h => h)
        have HIM : Hid (∀ x x', I x → Below x.heap.size x x' → I x') := by
          show ∀ x x', I x → Below x.heap.size x x' → I x'
          rw [hIe]
          exact fun x x' h hb => ⟨(hb.cell (p := ⟨b, off + j, none⟩) (World.block_lt_of_cell? _ _ h.1)).trans h.1, h.2.trans (hb.mono h.2.size)⟩
        have hI0 : I wr.drew := by rw [hIe]; exact ⟨c0, HL.out.drew⟩
        have NI : Nonempty (Cl I) := ⟨⟨_, hI0⟩⟩
        have HI0 := Lib.hid hI0
        have q0 : ∀ s : Cl I, s.val.cell? ⟨b, off + j, none⟩ = some (.int .i64 m) := fun s => (HIO.out _ s.ok).1
        clear hc c00 hg hge hbw hS hSs hO hOs hSi hoff ho hP hPs hG hGs hA1 hA1s hA2 hA2s hA3 hIe hI0 hx
        go_wp2_with fail
        refine wp_region_cl HI0.out (by kernel_rfl) (by kernel_rfl) ?_
        repeat go_big_quiet_step ((go_at_call 13; exact Calls.cl_of ((HG.out _).mono fun _ _ ⟨a, b⟩ => ⟨a, HIM.out _ _ (Cl.ok _) b⟩)))
        refine wpQuiet_nil ?_
        rintro _ ⟨x, rfl⟩
        have c1 := q0 x
        go_wp2_with fail
        go_roundw
        case rel => exact ⟨j + 1, by omega, by go_num, by rw [HN.out], rfl, HCN.out.1, HCN.out.2, (HIO.out _ x.ok).2⟩
        case measure => simp [intOf]; omega
    · obtain rfl : j = lz := by omega
      have hcz : cutF z s.size = some ((s.size : Int) - offK z j) := by
        have := HC.out
        rw [List.take_of_length_le (by omega)] at this
        exact this
      by_cases hS0 : S.size = 0
      rotate_left
      · have he : S.toList.isEmpty = false := by rw [empty_list2]; exact decide_eq_false hS0
        have hv := HR.out
        rw [if_pos (by rw [hcz]; intro h; injection h with h; omega)] at hv
        obtain ⟨rfl, rfl⟩ := Prod.mk.inj hv
        clear hv hcz hS hO hOs hSs hS0 hoff
        go_wp2_with fail
        go_ret2
        exact ⟨rfl, HL.out⟩
      · have he : S.toList.isEmpty = true := by rw [empty_list2]; exact decide_eq_true hS0
        have hv := HR.out
        rw [if_neg (by rw [hcz]; intro h; apply h; congr 1; omega)] at hv
        have HV := Lib.hid hv
        have HO := Lib.hid hO
        clear hv hcz hS hO hSs hS0 hoff
        go_wp2_with fail
        go_loopw [13] (fun i wv => ∃ q : Nat, q ≤ lt ∧ i = .int .i64 q ∧ badF (l.take q) = false ∧ Below w.heap.size w wv) (fun i _ => lt - (intOf i).toNat)
        case atStart => exact ⟨0, by omega, rfl, rfl, HL.out⟩
        case round =>
          obtain ⟨q, hq, rfl, hbad, hbel⟩ := hrel
          have HD := Lib.hid hbad
          have HL2 := Lib.hid hbel
          clear hbad hbel
          have hTl : l.length = lt := HT.out.1
          by_cases hql : q < lt
          · obtain ⟨b, off, rfl, hbw, hc⟩ := (HT.out.below HL2.out).2 (by omega)
            obtain ⟨g, hg⟩ : ∃ g, l[q]? = some g := ⟨l[q]'(by omega), List.getElem?_eq_getElem (by omega)⟩
            obtain ⟨c0, c1⟩ := hc q g hg
            have hge : l[q]'(by omega) = g := by
              rw [List.getElem?_eq_getElem (by omega)] at hg
              exact Option.some.inj hg
            have hgs := HLS.out g (List.mem_of_getElem? hg)
            have HM := Lib.hid (List.mem_of_getElem? hg)
            obtain ⟨nn, v⟩ := g
            simp only at c0 c1 hgs
            obtain ⟨p, hp⟩ : ∃ p, p = fieldR nn v := ⟨_, rfl⟩
            have HX : Hid (∀ W : World, Calls Try.prog 54 #[.agg #[.string nn, .string v]] W fun e w' => e = .returned (.bool p) ∧ Below W.heap.size W w') := fun W => by rw [hp]; exact rfright_any nn v (by omega) (by omega) W
            have hki : (q : Int) < lt := by omega
            have hli : (lt : Int) ≤ 1000 := by omega
            have HP := Lib.hid hp
            have HG : Hid (l.take (q + 1) = l.take q ++ [(nn, v)]) := by show _ = _; rw [List.take_succ_eq_append_getElem (by omega), hge]
            clear hc hg hge hgs hbw hp
            cases p
            · have hv := HV.out
              rw [if_pos (by unfold badF; rw [List.any_eq_true]; exact ⟨_, HM.out, by show (!(fieldR nn v)) = true; rw [← HP.out]; rfl⟩)] at hv
              obtain ⟨rfl, rfl⟩ := Prod.mk.inj hv
              clear hv
              go_wp2_with fail
              refine (HX.out _).mono ?_
              rintro e' w2 ⟨rfl, hb⟩
              have HB2 := Lib.hid hb
              clear hb c0 c1
              go_wp2_with fail
              go_ret2
              exact ⟨rfl, HL2.out.trans (HB2.out.mono HL2.out.size)⟩
            · have HN : Hid (badF (l.take (q + 1)) = false) := by
                show _ = _
                rw [HG.out]
                unfold badF
                have := HD.out
                unfold badF at this
                rw [List.any_append, this]
                simp only [List.any_cons, List.any_nil, Bool.or_false, Bool.false_or]
                rw [← HP.out]; rfl
              go_wp2_with fail
              refine (HX.out _).mono ?_
              rintro e' w2 ⟨rfl, hb⟩
              have HB2 := Lib.hid hb
              clear hb c0 c1
              go_wp2_with fail
              go_roundw
              case rel => exact ⟨q + 1, by omega, by go_num, HN.out, HL2.out.trans (HB2.out.mono HL2.out.size)⟩
              case measure => simp [intOf]; omega
          · obtain rfl : q = lt := by omega
            have hbl : badF l = false := by
              have := HD.out
              rw [List.take_of_length_le (by omega)] at this
              exact this
            have hv := HV.out
            rw [if_neg (by rw [hbl]; decide)] at hv
            obtain ⟨hv1, rfl⟩ := Prod.mk.inj hv
            obtain ⟨L, hL⟩ : ∃ L, L = lastB l := ⟨_, rfl⟩
            have HLC := Lib.hid (rlast_any (cap := ct) (HT.out.below HL2.out) hlt HLS.out)
            rw [← hL] at HLC
            have hLs : L.size ≤ 2004100 := by
              have h1 := lastA_size l HLS.out l.length (Nat.le_refl _)
              rw [List.take_length] at h1
              rw [hL]
              unfold lastB
              rw [ByteArray.size_append]
              show (lastA l).size + 2 ≤ _
              omega
            have a1 := fun (W : World) => run_string_add_sum (P := Try.prog) (w := W) O L (by omega)
            have HE : Hid (O ++ L = R) := by show O ++ L = R; rw [← hv1, HO.out, hL, hlen]
            clear hv hv1 hL hLs hbl hOs
            go_wp2_with fail
            refine HLC.out.mono ?_
            rintro e' w2 ⟨rfl, hb⟩
            have HB2 := Lib.hid hb
            clear hb
            go_wp2_with fail
            go_ret2
            rw [HE.out]
            exact ⟨rfl, HL2.out.trans (HB2.out.mono HL2.out.size)⟩
theorem rbody_any {w : World} {Az At : Option Addr} {lz cz lt ct : Nat} {k n : Int} {z : List Int} {s : ByteArray} {l : List Fld} (hz : Ints w Az lz z) (ht : Fds w At lt l) (hs : s.size ≤ 1000000) (hlz : lz ≤ 1000) (hlt : lt ≤ 1000) (hls : ∀ g ∈ l, g.1.size ≤ 1000 ∧ g.2.size ≤ 1000) {R : ByteArray} {e : Int} (hr : bodyRes k n z s l = (R, e)) : Calls Try.prog 11 #[.agg #[.int .i64 k, .int .i64 n], .slice Az lz cz, .string s, .slice At lt ct] w fun o w' => o = .returned (.tuple #[.string (R), .int .i64 e]) ∧ Below w.heap.size w w' := by
  have e1 : z.length = lz := hz.1
  have e2 : l.length = lt := ht.1
  unfold bodyRes at hr
  by_cases h0 : n < 0
  · rw [if_pos h0] at hr
    obtain ⟨rfl, rfl⟩ := Prod.mk.inj hr
    exact rbody_neg hz ht hs hlz hlt hls h0
  rw [if_neg h0] at hr
  by_cases hk : k = 2
  rotate_left
  · rw [if_pos hk] at hr
    by_cases hf : fitsB k n s = true ∧ z.length = 0 ∧ l.length = 0
    · rw [if_pos hf] at hr
      obtain ⟨rfl, rfl⟩ := Prod.mk.inj hr
      exact rbody_plain_ok hz ht hs hlz hlt hls (by omega) hk (by rw [hf.1, decide_eq_true (by omega)]; rfl)
    · rw [if_neg hf] at hr
      obtain ⟨rfl, rfl⟩ := Prod.mk.inj hr
      refine rbody_plain_no hz ht hs hlz hlt hls (by omega) hk ?_
      cases hff : fitsB k n s
      · rfl
      · rw [Bool.true_and, decide_eq_false_iff_not]
        exact fun h => hf ⟨hff, by omega, by omega⟩
  rw [if_neg (by omega)] at hr
  subst hk
  exact rbody_two (k := 2) hz ht hs hlz hlt hls (by omega) hr
end Go.Proofs.Ytekbmefdaepgcaa
