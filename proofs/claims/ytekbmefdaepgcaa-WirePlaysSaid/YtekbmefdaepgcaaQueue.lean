/- The queue of package queue: what each of its calls does, said of the octets that wait. -/
import Derived.Test.YtekbmefdaepgcaaCopyStr
namespace Go.Proofs.Ytekbmefdaepgcaa
open Go.RowKit
/-- Block b is a queue over the row R in block g: n octets wait, the first of them at place f. -/
structure IsQ (w : World) (b g : Nat) (R : List UInt8) (f n : Nat) : Prop where
  head : Blk w b #[.slice (some ⟨g, 0, none⟩) R.length R.length, .int .i64 f, .int .i64 n] 136
  row : Blk w g (bys R) 5
  at_ : f < R.length ∨ R.length = 0 ∧ f = 0
  le : n ≤ R.length
  most : R.length ≤ 65536
/-- Block b is a queue with room for most octets in all, of which S wait. -/
def Que (w : World) (b g most : Nat) (S : List UInt8) : Prop := ∃ R f n, IsQ w b g R f n ∧ R.length = most ∧ Ring.text R f n = S
theorem IsQ.ne {w : World} {b g f n : Nat} {R : List UInt8} (h : IsQ w b g R f n) : b ≠ g := h.head.ne h.row (by decide)
theorem IsQ.touch {P : Nat → Prop} {w w1 : World} {b g f n : Nat} {R : List UInt8} (h : IsQ w b g R f n) (ht : Touch P w w1) (hb : ¬ P b) (hg : ¬ P g) : IsQ w1 b g R f n :=
  ⟨h.head.touch ht hb, h.row.touch ht hg, h.at_, h.le, h.most⟩
theorem Que.touch {P : Nat → Prop} {w w1 : World} {b g most : Nat} {S : List UInt8} (h : Que w b g most S) (ht : Touch P w w1) (hb : ¬ P b) (hg : ¬ P g) : Que w1 b g most S := by
  obtain ⟨R, f, n, hq, h1, h2⟩ := h
  exact ⟨R, f, n, hq.touch ht hb hg, h1, h2⟩
theorem Que.le {w : World} {b g most : Nat} {S : List UInt8} (h : Que w b g most S) : S.length ≤ most := by
  obtain ⟨R, f, n, hq, h1, h2⟩ := h
  have h3 := hq.at_
  have h4 := hq.le
  rw [← h2, Ring.length_text _ _ _ (by omega) hq.le]
  omega
theorem Que.len {w : World} {b g f n : Nat} {R : List UInt8} (hq : IsQ w b g R f n) : (Ring.text R f n).length = n := by
  have h3 := hq.at_
  exact Ring.length_text _ _ _ (by omega) hq.le
/-- A pointer to a queue as the calls take it: none, a zero one, or one that New made. -/
theorem len_any {w : World} {b g most : Nat} {S : List UInt8} (h : Que w b g most S) : Calls Try.prog 76 #[.pointer (some ⟨b, 0, none⟩)] w fun e w' => e = .returned (.int .i64 S.length) ∧ w = w' := by
  obtain ⟨R, f, n, hq, h1, rfl⟩ := h
  rw [Que.len hq]
  have hc : w.cell? ⟨b, 2, none⟩ = some (.int .i64 n) := hq.head.cell 2
  clear hq h1
  go_enter Try.func76, Try.ntmps76
  go_wp2
  go_ret
  exact ⟨rfl, rfl⟩
theorem len_nil (w : World) : Calls Try.prog 76 #[.pointer none] w fun e w' => e = .returned (.int .i64 0) ∧ w = w' := by
  go_enter Try.func76, Try.ntmps76
  go_wp2
  go_ret
  exact ⟨rfl, rfl⟩
theorem most_any {w : World} {b g most : Nat} {S : List UInt8} (h : Que w b g most S) : Calls Try.prog 168 #[.pointer (some ⟨b, 0, none⟩)] w fun e w' => e = .returned (.int .i64 most) ∧ w = w' := by
  obtain ⟨R, f, n, hq, rfl, rfl⟩ := h
  have hc : w.cell? ⟨b, 0, none⟩ = some (.slice (some ⟨g, 0, none⟩) R.length R.length) := hq.head.cell 0
  clear hq
  go_enter Try.func168, Try.ntmps168
  go_wp2
  go_ret
  exact ⟨rfl, rfl⟩
theorem most_nil (w : World) : Calls Try.prog 168 #[.pointer none] w fun e w' => e = .returned (.int .i64 0) ∧ w = w' := by
  go_enter Try.func168, Try.ntmps168
  go_wp2
  go_ret
  exact ⟨rfl, rfl⟩
theorem room_any {w : World} {b g most : Nat} {S : List UInt8} (h : Que w b g most S) : Calls Try.prog 152 #[.pointer (some ⟨b, 0, none⟩)] w fun e w' => e = .returned (.int .i64 (most - S.length)) ∧ w = w' := by
  have hl := h.le
  have hm : most ≤ 65536 := by obtain ⟨R, f, n, hq, h1, _⟩ := h; have := hq.most; omega
  have H := Lib.hid h
  clear h
  go_enter Try.func152, Try.ntmps152
  go_wp2_with fail
  refine (most_any H.out).mono ?_
  rintro e w' ⟨rfl, rfl⟩
  go_wp2_with fail
  refine (len_any H.out).mono ?_
  rintro e w' ⟨rfl, rfl⟩
  go_wp2_with fail
  go_ret
  exact ⟨rfl, rfl⟩
theorem room_nil (w : World) : Calls Try.prog 152 #[.pointer none] w fun e w' => e = .returned (.int .i64 0) ∧ w = w' := by
  go_enter Try.func152, Try.ntmps152
  go_wp2_with fail
  refine (most_nil _).mono ?_
  rintro e w' ⟨rfl, rfl⟩
  go_wp2_with fail
  refine (len_nil _).mono ?_
  rintro e w' ⟨rfl, rfl⟩
  go_wp2_with fail
  go_ret
  exact ⟨rfl, rfl⟩

/-- The text of a part of a row that is known whole. -/
theorem run_str_of_row {P : Program} {w : World} {g t off len cap : Nat} {R : List UInt8} (hb : Blk w g (bys R) t) (src dst e : TypeId) (hs : P.underlying src = some (.slice e)) (he : P.underlying e = some (.int .u8)) (hd : P.underlying dst = some .string)
    (h : off + len ≤ R.length) : (convert src dst (.slice (some ⟨g, off, none⟩) len cap)).run P w = .ok (.string ⟨((R.drop off).take len).toArray⟩) w := by
  have hl : ((R.drop off).take len).length = len := by simp; omega
  have := run_convert_bytes_arg (P := P) w src e hs he g off len cap (((R.drop off).take len).map fun b : UInt8 => (b.toNat : Int)) (by simp; omega) (fun i hi => by
    rw [hb.cell, bys_get]
    have h2 : ((R.drop off).take len)[i]? = R[off + i]? := by rw [List.getElem?_take_of_lt hi, List.getElem?_drop]
    have h3 : off + i < R.length := by omega
    rw [List.getD_eq_getElem?_getD, List.getElem?_map, h2, List.getElem?_eq_getElem h3]
    rfl) dst hd
  rw [this]
  congr 2
  unfold strOfNums
  simp [Function.comp_def]
theorem ret_string {a b : ByteArray} (h : a = b) : Ending.returned (.string a) = .returned (.string b) := by rw [h]
theorem bytes_join (x y : List UInt8) : (⟨x.toArray⟩ : ByteArray) ++ ⟨y.toArray⟩ = ⟨(x ++ y).toArray⟩ := by
  apply ByteArray.ext
  simp
theorem peek_one {R : List UInt8} {f n m k : Nat} (hf : f < R.length) (hn : n ≤ R.length) (hm : m ≤ n) (h : f + m ≤ R.length) (hk : (Ring.text R f n).take k = (Ring.text R f n).take m) :
    (⟨(List.take m (List.drop f R)).toArray⟩ : ByteArray) ++ ⟨#[]⟩ = ⟨(List.take k (Ring.text R f n)).toArray⟩ := by
  have := Ring.peek_text R f n m (by omega) hn hm
  rw [Nat.min_eq_left h, show m - (f + m - f) = 0 from by omega, List.take_zero, List.append_nil, List.drop_take, show f + m - f = m from by omega] at this
  rw [hk, ← this]
  exact (bytes_join _ []).trans (by simp)
theorem peek_two {R : List UInt8} {f n m k : Nat} (hf : f < R.length) (hn : n ≤ R.length) (hm : m ≤ n) (h : ¬ f + m ≤ R.length) (hk : (Ring.text R f n).take k = (Ring.text R f n).take m) :
    (⟨(List.take (R.length - f) (List.drop f R)).toArray⟩ : ByteArray) ++ ⟨(List.take (m - (R.length - f)) R).toArray⟩ = ⟨(List.take k (Ring.text R f n)).toArray⟩ := by
  have := Ring.peek_text R f n m (by omega) hn hm
  rw [Nat.min_eq_right (by omega), List.take_of_length_le (Nat.le_refl _)] at this
  rw [hk, ← this, bytes_join, List.take_of_length_le (l := List.drop f R) (by simp)]
set_option maxHeartbeats 1000000 in
theorem peek_any {w : World} {b g most : Nat} {S : List UInt8} (h : Que w b g most S) (k : Int) (hk : k ≤ 9223372036854775807) :
    Calls Try.prog 75 #[.pointer (some ⟨b, 0, none⟩), .int .i64 k] w fun e w' => e = .returned (.string ⟨(S.take k.toNat).toArray⟩) ∧ ∃ m, w.drewN m = w' := by
  have hl := h.le
  have H := Lib.hid h
  obtain ⟨R, f, n, hq, rfl, rfl⟩ := h
  rw [Que.len hq] at hl
  have hc0 : w.cell? ⟨b, 0, none⟩ = some (.slice (some ⟨g, 0, none⟩) R.length R.length) := hq.head.cell 0
  have hc1 : w.cell? ⟨b, 1, none⟩ = some (.int .i64 f) := hq.head.cell 1
  have hm := hq.most
  have hat := hq.at_
  have hl2 := Que.len hq
  have H2 := Lib.hid hl2
  clear hl2
  by_cases h0 : k < 0
  · have F := Lib.hid (show (⟨#[]⟩ : ByteArray) = ⟨(List.take k.toNat (Ring.text R f n)).toArray⟩ from by rw [show k.toNat = 0 from by omega]; rfl)
    go_enter Try.func75, Try.ntmps75
    go_wp2_with fail
    refine (len_any H.out).mono ?_
    rintro e w' ⟨rfl, rfl⟩
    rw [H2.out]
    go_wp2_with fail
    go_ret
    rw [← F.out]
    exact ⟨rfl, 0, rfl⟩
  by_cases h1 : k = 0
  · have F := Lib.hid (show (⟨#[]⟩ : ByteArray) = ⟨(List.take k.toNat (Ring.text R f n)).toArray⟩ from by rw [show k.toNat = 0 from by omega]; rfl)
    subst h1
    go_enter Try.func75, Try.ntmps75
    go_wp2_with fail
    refine (len_any H.out).mono ?_
    rintro e w' ⟨rfl, rfl⟩
    rw [H2.out]
    go_wp2_with fail
    go_ret
    rw [← F.out]
    exact ⟨rfl, 0, rfl⟩
  by_cases hn0 : n ≤ 0
  · have F := Lib.hid (show (⟨#[]⟩ : ByteArray) = ⟨(List.take k.toNat (Ring.text R f n)).toArray⟩ from by rw [List.eq_nil_of_length_eq_zero (l := Ring.text R f n) (by rw [H2.out]; omega)]; simp)
    go_enter Try.func75, Try.ntmps75
    go_wp2_with fail
    refine (len_any H.out).mono ?_
    rintro e w' ⟨rfl, rfl⟩
    rw [H2.out]
    go_wp2_with fail
    go_ret
    rw [← F.out]
    exact ⟨rfl, 0, rfl⟩
  obtain ⟨m, rfl⟩ := Int.eq_ofNat_of_zero_le (show 0 ≤ k by omega)
  have hf : f < R.length := by omega
  clear hat
  have cv : ∀ (off len : Nat), off + len ≤ R.length → ∀ (N : Nat), (convert 97 9 (.slice (some ⟨g, off, none⟩) len len)).run Try.prog (w.drewN N) = .ok (.string ⟨((R.drop off).take len).toArray⟩) (w.drewN N) := fun off len h N =>
    run_str_of_row (hq.row.drewN N) _ _ _ Try.underlying97 Try.underlying5 Try.underlying9 h
  by_cases hkn : m ≤ n
  · by_cases hfm : f + m ≤ R.length
    · have c1 := cv f m (by omega)
      have c2 := cv 0 0 (by omega)
      clear cv
      go_enter Try.func75, Try.ntmps75
      go_wp2_with fail
      refine (len_any H.out).mono ?_
      rintro e w' ⟨rfl, rfl⟩
      rw [H2.out]
      go_wp2_with fail
      go_quiet (fail)
      go_wp2_with fail
      go_quiet (fail)
      go_wp2_with fail
      go_ret
      exact ⟨ret_string (peek_one hf hl hkn hfm rfl), _, rfl⟩
    · have c1 := cv f (R.length - f) (by omega)
      have c2 := cv 0 (m - (R.length - f)) (by omega)
      clear cv
      go_enter Try.func75, Try.ntmps75
      go_wp2_with fail
      refine (len_any H.out).mono ?_
      rintro e w' ⟨rfl, rfl⟩
      rw [H2.out]
      go_wp2_with fail
      go_quiet (fail)
      go_wp2_with fail
      go_quiet (fail)
      go_wp2_with fail
      go_ret
      exact ⟨ret_string (peek_two hf hl hkn hfm rfl), _, rfl⟩
  · by_cases hfm : f + n ≤ R.length
    · have c1 := cv f n (by omega)
      have c2 := cv 0 0 (by omega)
      clear cv
      go_enter Try.func75, Try.ntmps75
      go_wp2_with fail
      refine (len_any H.out).mono ?_
      rintro e w' ⟨rfl, rfl⟩
      rw [H2.out]
      go_wp2_with fail
      go_quiet (fail)
      go_wp2_with fail
      go_quiet (fail)
      go_wp2_with fail
      go_ret
      exact ⟨ret_string (peek_one hf hl (Nat.le_refl _) hfm (by rw [List.take_of_length_le (by rw [H2.out]; omega), List.take_of_length_le (by rw [H2.out]; omega)])), _, rfl⟩
    · have c1 := cv f (R.length - f) (by omega)
      have c2 := cv 0 (n - (R.length - f)) (by omega)
      clear cv
      go_enter Try.func75, Try.ntmps75
      go_wp2_with fail
      refine (len_any H.out).mono ?_
      rintro e w' ⟨rfl, rfl⟩
      rw [H2.out]
      go_wp2_with fail
      go_quiet (fail)
      go_wp2_with fail
      go_quiet (fail)
      go_wp2_with fail
      go_ret
      exact ⟨ret_string (peek_two hf hl (Nat.le_refl _) hfm (by rw [List.take_of_length_le (by rw [H2.out]; omega), List.take_of_length_le (by rw [H2.out]; omega)])), _, rfl⟩
theorem isEmpty_of_pos {s : ByteArray} (h : ¬ s.size ≤ 0) : s.toList.isEmpty = false := by
  rw [← decide_eq_emptyBytes]
  simp only [decide_eq_false_iff_not]
  rintro rfl
  exact h (Nat.le_refl _)
/-- Peek again, the text under a name. -/
theorem peek_at {w : World} {b g most : Nat} {S : List UInt8} (h : Que w b g most S) (k : Int) (hk : k ≤ 9223372036854775807) (sv : ByteArray) (hs : sv = ⟨(S.take k.toNat).toArray⟩) :
    Calls Try.prog 75 #[.pointer (some ⟨b, 0, none⟩), .int .i64 k] w fun e w' => e = .returned (.string sv) ∧ ∃ m, w.drewN m = w' := by
  rw [hs]; exact peek_any h k hk
theorem IsQ.drewN {w : World} {b g f n : Nat} {R : List UInt8} (h : IsQ w b g R f n) (m : Nat) : IsQ (w.drewN m) b g R f n := ⟨h.head, h.row, h.at_, h.le, h.most⟩
theorem IsQ.drew {w : World} {b g f n : Nat} {R : List UInt8} (h : IsQ w b g R f n) : IsQ w.drew b g R f n := ⟨h.head, h.row, h.at_, h.le, h.most⟩
theorem IsQ.turn {w : World} {b g f n f' n' : Nat} {R : List UInt8} (h : IsQ w b g R f n) (h1 : f' < R.length) (h2 : n' ≤ R.length) :
    IsQ ((w.setCell ⟨b, 1, none⟩ (.int .i64 f')).setCell ⟨b, 2, none⟩ (.int .i64 n')) b g R f' n' := by
  refine ⟨?_, ?_, .inl h1, h2, h.most⟩
  · have := (h.head.set 1 (.int .i64 f')).set 2 (.int .i64 n')
    simpa using this
  · exact (h.row.far (p := ⟨b, 1, none⟩) (Ne.symm h.ne) _).far (p := ⟨b, 2, none⟩) (Ne.symm h.ne) _
theorem Touch.turn (b g : Nat) (w : World) (u v : Value) : Touch (fun i => i = b ∨ i = g) w ((w.setCell ⟨b, 1, none⟩ u).setCell ⟨b, 2, none⟩ v) :=
  ((Touch.refl _ w).setCell (p := ⟨b, 1, none⟩) (.inl rfl) u).setCell (p := ⟨b, 2, none⟩) (.inl rfl) v
set_option maxHeartbeats 1000000 in
theorem take_any {w : World} {b g most : Nat} {S : List UInt8} (h : Que w b g most S) (k : Int) (hk : k ≤ 9223372036854775807) :
    Calls Try.prog 110 #[.pointer (some ⟨b, 0, none⟩), .int .i64 k] w fun e w' => e = .returned (.string ⟨(S.take k.toNat).toArray⟩) ∧ Que w' b g most (S.drop k.toNat) ∧ Touch (fun i => i = b ∨ i = g) w w' := by
  have H := Lib.hid h
  obtain ⟨sv, hsv⟩ : ∃ sv : ByteArray, sv = ⟨(S.take k.toNat).toArray⟩ := ⟨_, rfl⟩
  have HS := Lib.hid hsv
  clear hsv
  rw [← HS.out]
  obtain ⟨R, f, n, hq, rfl, rfl⟩ := h
  have hsz : sv.size = min k.toNat n := by rw [HS.out]; simp [ByteArray.size, Que.len hq]
  have hl := hq.le
  have hm := hq.most
  have hat := hq.at_
  by_cases h0 : sv.size ≤ 0
  · have he : sv = ByteArray.empty := by apply ByteArray.ext; exact Array.eq_empty_of_size_eq_zero (by have : sv.data.size = sv.size := rfl; omega)
    have hne : sv.toList.isEmpty = true := by rw [he, ← decide_eq_emptyBytes]; simp
    have hk0 : k.toNat = 0 ∨ n = 0 := by omega
    clear hsz he hat
    go_enter Try.func110, Try.ntmps110
    go_wp2_with fail
    refine (peek_at H.out k hk sv HS.out).mono ?_
    rintro e w' ⟨rfl, m, rfl⟩
    go_wp2_with fail
    go_ret
    refine ⟨rfl, ⟨R, f, n, hq.drewN m, rfl, ?_⟩, (Touch.refl _ _).drewN _⟩
    rcases hk0 with h | h
    · rw [h]; rfl
    · rw [List.eq_nil_of_length_eq_zero (l := Ring.text R f n) (by rw [Que.len hq, h])]; simp
  · have hf : f < R.length := by omega
    have hc0 : w.cell? ⟨b, 0, none⟩ = some (.slice (some ⟨g, 0, none⟩) R.length R.length) := hq.head.cell 0
    have hc1 : w.cell? ⟨b, 1, none⟩ = some (.int .i64 f) := hq.head.cell 1
    have hc2 : w.cell? ⟨b, 2, none⟩ = some (.int .i64 n) := hq.head.cell 2
    have hf1 := hq.head.froz 1
    have hf2 := hq.head.froz 2
    have hss : sv.size ≤ n := by omega
    have HZ := Lib.hid hsz
    clear hsz hat
    have hne := isEmpty_of_pos h0
    have hlm : ((R.length : Int) == 0) = false := by rw [beq_eq_false_iff_ne]; omega
    have hrem : ((f : Int) + (sv.size : Int)).tmod (R.length : Int) = ((Ring.at_ R.length f sv.size : Nat) : Int) := by
      rw [← Ring.at_mod _ _ _ hf (by omega)]
      rw [Int.tmod_eq_emod_of_nonneg (by omega)]
      rfl
    go_enter Try.func110, Try.ntmps110
    go_wp2_with fail
    refine (peek_at H.out k hk sv HS.out).mono ?_
    rintro e w' ⟨rfl, m, hw'⟩
    have hc0 : w'.cell? ⟨b, 0, none⟩ = some (.slice (some ⟨g, 0, none⟩) R.length R.length) := by rw [← hw']; exact hc0
    have hc1 : w'.cell? ⟨b, 1, none⟩ = some (.int .i64 f) := by rw [← hw']; exact hc1
    have hc2 : w'.cell? ⟨b, 2, none⟩ = some (.int .i64 n) := by rw [← hw']; exact hc2
    have hf1 : w'.frozen? ⟨b, 1, none⟩ = false := by rw [← hw']; exact hf1
    have hf2 : w'.frozen? ⟨b, 2, none⟩ = false := by rw [← hw']; exact hf2
    have HW := Lib.hid hw'
    clear hw'
    go_wp2_with fail
    go_region
    go_wp2_with fail
    go_ret
    refine ⟨rfl, ?_, ?_⟩
    · rw [← HW.out, show (n : Int) - (sv.size : Int) = ((n - sv.size : Nat) : Int) from by omega]
      have hz := HZ.out
      have hlt : Ring.at_ R.length f sv.size < R.length := by unfold Ring.at_; split <;> omega
      refine ⟨R, Ring.at_ R.length f sv.size, n - sv.size, ((hq.drewN m).turn hlt (by omega)).drew, rfl, ?_⟩
      rw [Ring.take_text R f n sv.size hf hl hss]
      by_cases hkn : k.toNat ≤ n
      · rw [show sv.size = k.toNat from by omega]
      · rw [List.drop_of_length_le (by rw [Que.len hq]; omega), List.drop_of_length_le (by rw [Que.len hq]; omega)]
    · rw [← HW.out]
      exact (((Touch.refl _ w).drewN m).trans (Touch.turn b g _ _ _)).drew
end Go.Proofs.Ytekbmefdaepgcaa
