/- Package digits: Dec and Hex: what each answers for every text and every greatest number. -/
import Derived.Test.YtmoofcmmpemdcaaGreatDoorOctet
set_option linter.unusedSimpArgs false
set_option linter.unusedVariables false
namespace Go.Proofs.YtmoofcmmpemdcaaGreatDoor
open Go.RowKit
def digV (r : Int) : Int := if 48 ≤ r ∧ r ≤ 57 then r - 48 else if 97 ≤ r ∧ r ≤ 102 then r - 87 else if 65 ≤ r ∧ r ≤ 70 then r - 55 else -1
theorem digV_range (r : Int) : -1 ≤ digV r ∧ digV r ≤ 15 := by
  unfold digV
  repeat' split
  all_goals omega
theorem digV_high {r : Int} (h : 128 ≤ r) : digV r = -1 := by
  unfold digV
  rw [if_neg (by omega), if_neg (by omega), if_neg (by omega)]
def numV (base : Int) (l : List UInt8) : Int := l.foldl (fun n b => n * base + digV b.toNat) 0
def digB (base : Int) (b : UInt8) : Bool := decide (0 ≤ digV b.toNat ∧ digV b.toNat < base)
/-- What a text of digits comes to: the number, and the error's number. -/
def numRes (l : List UInt8) (base most : Int) : Int × Int :=
  if l.isEmpty then (0, 2) else if !(l.all (digB base)) then (0, 3) else if numV base l ≤ most then (numV base l, 0) else (0, 5)
theorem numV_snoc (base : Int) (l : List UInt8) (b : UInt8) : numV base (l ++ [b]) = numV base l * base + digV b.toNat := by
  unfold numV
  rw [List.foldl_append]
  rfl
set_option maxRecDepth 100000 in
theorem digit_any (r : Int) (h0 : 0 ≤ r) (h1 : r ≤ 1114111) (w : World) : Calls Tryz.prog 226 #[.int .i32 r] w fun e w' => e = .returned (.int .i64 (digV r)) ∧ w = w' := by
  rcases (by omega : r < 48 ∨ (48 ≤ r ∧ r ≤ 57) ∨ (57 < r ∧ r < 65) ∨ (65 ≤ r ∧ r ≤ 70) ∨ (70 < r ∧ r < 97) ∨ (97 ≤ r ∧ r ≤ 102) ∨ 102 < r) with h | ⟨h, h'⟩ | ⟨h, h'⟩ | ⟨h, h'⟩ | ⟨h, h'⟩ | ⟨h, h'⟩ | h
  · have HV : Hid (digV r = -1) := by show digV r = -1; unfold digV; repeat' split; all_goals omega
    go_enter Tryz.func226, Tryz.ntmps226
    go_wp2_with fail
    go_ret
    rw [HV.out]
    exact ⟨rfl, rfl⟩
  · have HV : Hid (digV r = r - 48) := by show digV r = r - 48; unfold digV; repeat' split; all_goals omega
    go_enter Tryz.func226, Tryz.ntmps226
    go_wp2_with fail
    go_ret
    rw [HV.out]
    exact ⟨rfl, rfl⟩
  · have HV : Hid (digV r = -1) := by show digV r = -1; unfold digV; repeat' split; all_goals omega
    go_enter Tryz.func226, Tryz.ntmps226
    go_wp2_with fail
    go_ret
    rw [HV.out]
    exact ⟨rfl, rfl⟩
  · have HV : Hid (digV r = r - 65 + 10) := by show digV r = r - 65 + 10; unfold digV; repeat' split; all_goals omega
    go_enter Tryz.func226, Tryz.ntmps226
    go_wp2_with fail
    go_ret
    rw [HV.out]
    exact ⟨rfl, rfl⟩
  · have HV : Hid (digV r = -1) := by show digV r = -1; unfold digV; repeat' split; all_goals omega
    go_enter Tryz.func226, Tryz.ntmps226
    go_wp2_with fail
    go_ret
    rw [HV.out]
    exact ⟨rfl, rfl⟩
  · have HV : Hid (digV r = r - 97 + 10) := by show digV r = r - 97 + 10; unfold digV; repeat' split; all_goals omega
    go_enter Tryz.func226, Tryz.ntmps226
    go_wp2_with fail
    go_ret
    rw [HV.out]
    exact ⟨rfl, rfl⟩
  · have HV : Hid (digV r = -1) := by show digV r = -1; unfold digV; repeat' split; all_goals omega
    go_enter Tryz.func226, Tryz.ntmps226
    go_wp2_with fail
    go_ret
    rw [HV.out]
    exact ⟨rfl, rfl⟩
theorem take_snoc (s : ByteArray) (k : Nat) (h : k < s.size) : s.data.toList.take (k + 1) = s.data.toList.take k ++ [s[k]] := by
  rw [List.take_succ_eq_append_getElem (by simpa using h)]; rfl
theorem rune_facts (s : ByteArray) (k : Nat) (h : k < s.size) : ∃ (r : Int) (wd : Nat), r = ((Utf8.decode s k).1 : Int) ∧ wd = (Utf8.decode s k).2 ∧ 0 ≤ r ∧ r ≤ 1114111 ∧ 1 ≤ wd ∧ (digV r = digV (s[k]'h).toNat) ∧ (0 ≤ digV r → wd = 1) := by
  have hm : (Utf8.decode s k).1 ≤ 1114111 := by
    have hb : ∀ j, (s.get! (k + j)).toNat < 256 := fun j => (s.get! (k + j)).toNat_lt
    have h0 := hb 0; have h1 := hb 1; have h2 := hb 2; have h3 := hb 3
    simp only [Utf8.decode]
    repeat' split
    all_goals simp_all [Utf8.runeError, Utf8.valid]
    all_goals omega
  refine ⟨_, _, rfl, rfl, by omega, by omega, ?_⟩
  by_cases ha : (s[k]'h).toNat < 128
  · rw [decode_ascii s k h ha]
    exact ⟨Nat.le_refl _, rfl, fun _ => rfl⟩
  · have hh := decode_high s k h (by omega)
    refine ⟨hh.2, ?_, fun h' => ?_⟩
    · rw [digV_high (by omega), digV_high (by omega)]
    · rw [digV_high (by omega)] at h'; omega
theorem numF_nn {base : Int} (hb : 0 ≤ base) : ∀ (l : List UInt8) (n0 : Int), 0 ≤ n0 → l.all (digB base) = true → 0 ≤ l.foldl (fun n b => n * base + digV b.toNat) n0
  | [], n0, h, _ => h
  | b :: l, n0, h, ha => by
    rw [List.all_cons, Bool.and_eq_true] at ha
    have h2 := ha.1
    simp only [digB, decide_eq_true_eq] at h2
    have h3 := Int.mul_nonneg h hb
    exact numF_nn hb l (n0 * base + digV b.toNat) (by omega) ha.2
theorem numV_nn {base : Int} (hb : 0 ≤ base) (l : List UInt8) (h : l.all (digB base) = true) : 0 ≤ numV base l := numF_nn hb l 0 (Int.le_refl _) h
/-- What the loop holds: no digit is wrong, and the number so far, or that it is beyond the greatest. -/
def NumI10 (s : ByteArray) (most : Int) (k : Nat) (n : Int) (over : Bool) : Prop :=
  (s.data.toList.take k).all (digB 10) = true ∧ 0 ≤ n ∧ (over = false → n = numV 10 (s.data.toList.take k) ∧ (k = 0 ∨ n ≤ most)) ∧ (over = true → most < numV 10 (s.data.toList.take k))
theorem NumI10.next {s : ByteArray} {most : Int} {k : Nat} {n : Int} {over : Bool} (h : NumI10 s most k n over) (hk : k < s.size) {d : Int} (hd : d = digV (s[k]'hk).toNat) (h0 : 0 ≤ d) (h1 : d < 10) {n' : Int} {over' : Bool}
    (ho : over' = false → over = false ∧ n' = n * 10 + d ∧ n' ≤ most) (ho' : over' = true → over = true ∨ most < d ∨ (most - d) / 10 < n) (hn : 0 ≤ n') : NumI10 s most (k + 1) n' over' := by
  obtain ⟨a, b, c, e⟩ := h
  have hv := numV_nn (base := 10) (by omega) _ a
  unfold NumI10
  rw [take_snoc s k hk, List.all_append, a, numV_snoc, ← hd]
  refine ⟨?_, hn, fun hf => ?_, fun ht => ?_⟩
  · simp only [List.all_cons, List.all_nil, Bool.and_true, Bool.true_and, digB, decide_eq_true_eq, ← hd]
    exact ⟨h0, h1⟩
  · obtain ⟨p, q, r⟩ := ho hf
    have := (c p).1
    exact ⟨by rw [q, this], .inr r⟩
  · cases over
    · have := (c rfl).1
      rcases ho' ht with h | h | h
      · cases h
      · omega
      · omega
    · have := e rfl
      omega
set_option maxRecDepth 100000 in
set_option maxHeartbeats 4000000 in
theorem number_10 (s : ByteArray) (most : Int) (hs : s.size ≤ 9223372036854775807) (hm : most ≤ 9223372036854775807) (hm0 : -9223372036854775808 ≤ most) (n e : Int) (hr : numRes s.data.toList 10 most = (n, e)) (w : World) :
    Calls Tryz.prog 196 #[.string s, .int .i64 10, .int .i64 most] w fun en w' => en = .returned (.tuple #[.int .i64 n, .int .i64 e]) ∧ Below w.heap.size w w' := by
  have HR := Lib.hid hr
  clear hr
  cases hz : s.data.toList.isEmpty
  case true =>
    have h2 : s.toList.isEmpty = true := by rw [isEmpty_list]; exact hz
    have hr : Hid ((0, 2) = (n, e)) := by show (0, 2) = (n, e); rw [← HR.out]; unfold numRes; rw [hz]; rfl
    clear hz
    go_enter Tryz.func196, Tryz.ntmps196
    go_wp2_with fail
    go_ret2
    obtain ⟨rfl, rfl⟩ := Prod.mk.inj hr.out
    exact ⟨rfl, Below.refl _ _⟩
  have h2 : s.toList.isEmpty = false := by rw [isEmpty_list]; exact hz
  have HZ := Lib.hid hz
  clear hz
  go_enter Tryz.func196, Tryz.ntmps196
  go_wp2_with fail
  go_loopw [8, 9] (fun nv ov wr => ∃ (k : Nat) (m : Int) (over : Bool), nv = .int .i64 m ∧ ov = .bool over ∧ m ≤ 9223372036854775807 ∧ k ≤ s.size ∧ wr.heap[w.heap.size]? = some (.stringIter s k) ∧ Below w.heap.size w wr ∧ NumI10 s most k m over) (fun _ _ wr => s.size - wr.iterPos w.heap.size)
  case atStart => exact ⟨0, 0, false, rfl, rfl, by omega, by omega, World.iter_heap w s 0, (Below.refl _ _).alloc (Nat.le_refl _) _, rfl, Int.le_refl _, fun _ => ⟨rfl, .inl rfl⟩, fun h => by cases h⟩
  case round =>
    obtain ⟨k, m, over, rfl, rfl, hmm, hp, hit, hbw, hI⟩ := hrel
    have HI := Lib.hid hI
    have HIT := Lib.hid hit
    have HBW := Lib.hid hbw
    have hm0' : 0 ≤ m := hI.2.1
    have hsz : w.heap.size < wr.heap.size := (Array.getElem?_eq_some_iff.1 hit).1
    clear hI hit hbw
    by_cases hlt : k < s.size
    · obtain ⟨r, wd, hr, hwd, hr0, hr1, hwd1, hq, hq1⟩ := rune_facts s k hlt
      have hnx : ∀ ty, (Instr.next (.pointer (some ⟨w.heap.size, 0, none⟩)) true ty).run Tryz.prog wr = .ok (.tuple #[.bool true, .int .i64 k, .int .i32 r]) (wr.iterAt w.heap.size s (k + wd)) := fun ty => by
        rw [Lib.run_next_any_at wr w.heap.size s k ty HIT.out hlt, hr, hwd]
      have HIT2 := Lib.hid (Lib.iterAt_heap wr w.heap.size s k (k + wd) HIT.out)
      have HBW2 := Lib.hid (Lib.below_iterAt HBW.out (k := w.heap.size) (Nat.le_refl _) s (k + wd))
      obtain ⟨d, hd⟩ : ∃ d, d = digV r := ⟨_, rfl⟩
      have hdr : -1 ≤ d ∧ d ≤ 15 := by rw [hd]; exact digV_range r
      have hd1 := hdr.1
      have hd2 := hdr.2
      have HD := Lib.hid hd
      have HQ := Lib.hid hq
      have HQ1 := Lib.hid hq1
      clear hr hwd hdr hd hq hq1
      go_wp2_with fail
      refine (digit_any r hr0 hr1 _).mono ?_
      rintro en w1 ⟨rfl, rfl⟩
      rw [← HD.out]
      by_cases hbad : d < 0 ∨ 10 ≤ d
      · have hR : Hid ((0, 3) = (n, e)) := by
          show (0, 3) = (n, e)
          rw [← HR.out]
          unfold numRes
          rw [HZ.out, all_not_at hlt (q := digB 10) (by unfold digB; rw [← HQ.out, ← HD.out, decide_eq_false_iff_not]; omega)]
          rfl
        rcases hbad with hbad | hbad
        · go_wp2_with fail
          go_ret2
          obtain ⟨rfl, rfl⟩ := Prod.mk.inj hR.out
          exact ⟨rfl, HBW2.out⟩
        · have hd0 : 0 ≤ d := by omega
          go_wp2_with fail
          go_ret2
          obtain ⟨rfl, rfl⟩ := Prod.mk.inj hR.out
          exact ⟨rfl, HBW2.out⟩
      · have hd0 : 0 ≤ d := by omega
        have hdB : d < 10 := by omega
        obtain rfl : wd = 1 := HQ1.out (by rw [← HD.out]; exact hd0)
        clear hbad
        have hdq : Hid (d = digV (s[k]'hlt).toNat) := by show d = _; rw [HD.out, HQ.out]
        cases over
        · by_cases h3 : most < d
          · go_wp2_with fail
            go_roundw
            case rel => exact ⟨k + 1, m, true, rfl, rfl, hmm, by omega, HIT2.out, HBW2.out, HI.out.next hlt hdq.out hd0 hdB (fun h => by cases h) (fun _ => .inr (.inl h3)) hm0'⟩
            case measure =>
              simp only [World.iterPos, HIT2.out, HIT.out]
              omega
          · have h3' : d ≤ most := by omega
            have hq0 : 0 ≤ (most - d) / 10 := by omega
            by_cases h4 : (most - d) / 10 < m
            · go_wp2_with fail
              go_roundw
              case rel => exact ⟨k + 1, m, true, rfl, rfl, hmm, by omega, HIT2.out, HBW2.out, HI.out.next hlt hdq.out hd0 hdB (fun h => by cases h) (fun _ => .inr (.inr h4)) hm0'⟩
              case measure =>
                simp only [World.iterPos, HIT2.out, HIT.out]
                omega
            · have h5 : m * 10 + d ≤ most := by omega
              have e1 : decide (most < d) = false := by rw [decide_eq_false_iff_not]; omega
              have e2 : decide ((most - d) / 10 < m) = false := by rw [decide_eq_false_iff_not]; omega
              go_wp2_with fail
              go_roundw
              case rel => exact ⟨k + 1, m * 10 + d, false, rfl, rfl, by omega, by omega, HIT2.out, HBW2.out, HI.out.next hlt hdq.out hd0 hdB (fun _ => ⟨rfl, rfl, h5⟩) (fun h => by cases h) (by omega)⟩
              case measure =>
                simp only [World.iterPos, HIT2.out, HIT.out]
                omega
        · go_wp2_with fail
          go_roundw
          case rel => exact ⟨k + 1, m, true, rfl, rfl, hmm, by omega, HIT2.out, HBW2.out, HI.out.next hlt hdq.out hd0 hdB (fun h => by cases h) (fun _ => .inl rfl) hm0'⟩
          case measure =>
            simp only [World.iterPos, HIT2.out, HIT.out]
            omega
    · have hnx : ∀ ty, (Instr.next (.pointer (some ⟨w.heap.size, 0, none⟩)) true ty).run Tryz.prog wr = _ := fun ty => Lib.run_next_end_at wr w.heap.size s k ty HIT.out hlt
      obtain rfl : k = s.size := by omega
      have hT : s.data.toList.take s.size = s.data.toList := List.take_of_length_le (by rw [← Lib.size_eq]; exact Nat.le_refl _)
      have HT := Lib.hid hT
      have hz0 : s.size ≠ 0 := fun h0 => by
        have h1 := HZ.out
        rw [Lib.size_eq, List.length_eq_zero_iff] at h0
        rw [h0] at h1
        cases h1
      cases over
      · have hR : Hid ((m, 0) = (n, e)) := by
          obtain ⟨a, b, c, _⟩ := HI.out
          rw [HT.out] at a c
          obtain ⟨c1, c2⟩ := c rfl
          show (m, 0) = (n, e)
          rw [← HR.out]
          unfold numRes
          rw [HZ.out, a, ← c1]
          rcases c2 with c2 | c2
          · exact absurd c2 hz0
          · simp [c2]
        clear hT hz0
        go_wp2_with fail
        go_ret2
        obtain ⟨rfl, rfl⟩ := Prod.mk.inj hR.out
        exact ⟨rfl, HBW.out⟩
      · have hR : Hid ((0, 5) = (n, e)) := by
          obtain ⟨a, b, _, c⟩ := HI.out
          rw [HT.out] at a c
          have c1 := c rfl
          show (0, 5) = (n, e)
          rw [← HR.out]
          unfold numRes
          rw [HZ.out, a, if_neg (by simp), if_neg (by simp), if_neg (by omega)]
        clear hT hz0
        go_wp2_with fail
        go_ret2
        obtain ⟨rfl, rfl⟩ := Prod.mk.inj hR.out
        exact ⟨rfl, HBW.out⟩
set_option maxRecDepth 100000 in
theorem dec_any (s : ByteArray) (most : Int) (hs : s.size ≤ 9223372036854775807) (hm : most ≤ 9223372036854775807) (hm0 : -9223372036854775808 ≤ most) (n e : Int) (hr : numRes s.data.toList 10 most = (n, e)) (w : World) :
    Calls Tryz.prog 149 #[.string s, .int .i64 most] w fun en w' => en = .returned (.tuple #[.int .i64 n, .int .i64 e]) ∧ Below w.heap.size w w' := by
  have HR := Lib.hid hr
  clear hr
  go_enter Tryz.func149, Tryz.ntmps149
  go_wp2_with fail
  refine (number_10 s most hs hm hm0 n e HR.out _).mono ?_
  rintro en w1 ⟨rfl, hb⟩
  go_wp2_with fail
  go_ret2
  exact ⟨rfl, hb⟩
/-- What the loop holds: no digit is wrong, and the number so far, or that it is beyond the greatest. -/
def NumI16 (s : ByteArray) (most : Int) (k : Nat) (n : Int) (over : Bool) : Prop :=
  (s.data.toList.take k).all (digB 16) = true ∧ 0 ≤ n ∧ (over = false → n = numV 16 (s.data.toList.take k) ∧ (k = 0 ∨ n ≤ most)) ∧ (over = true → most < numV 16 (s.data.toList.take k))
theorem NumI16.next {s : ByteArray} {most : Int} {k : Nat} {n : Int} {over : Bool} (h : NumI16 s most k n over) (hk : k < s.size) {d : Int} (hd : d = digV (s[k]'hk).toNat) (h0 : 0 ≤ d) (h1 : d < 16) {n' : Int} {over' : Bool}
    (ho : over' = false → over = false ∧ n' = n * 16 + d ∧ n' ≤ most) (ho' : over' = true → over = true ∨ most < d ∨ (most - d) / 16 < n) (hn : 0 ≤ n') : NumI16 s most (k + 1) n' over' := by
  obtain ⟨a, b, c, e⟩ := h
  have hv := numV_nn (base := 16) (by omega) _ a
  unfold NumI16
  rw [take_snoc s k hk, List.all_append, a, numV_snoc, ← hd]
  refine ⟨?_, hn, fun hf => ?_, fun ht => ?_⟩
  · simp only [List.all_cons, List.all_nil, Bool.and_true, Bool.true_and, digB, decide_eq_true_eq, ← hd]
    exact ⟨h0, h1⟩
  · obtain ⟨p, q, r⟩ := ho hf
    have := (c p).1
    exact ⟨by rw [q, this], .inr r⟩
  · cases over
    · have := (c rfl).1
      rcases ho' ht with h | h | h
      · cases h
      · omega
      · omega
    · have := e rfl
      omega
set_option maxRecDepth 100000 in
set_option maxHeartbeats 4000000 in
theorem number_16 (s : ByteArray) (most : Int) (hs : s.size ≤ 9223372036854775807) (hm : most ≤ 9223372036854775807) (hm0 : -9223372036854775808 ≤ most) (n e : Int) (hr : numRes s.data.toList 16 most = (n, e)) (w : World) :
    Calls Tryz.prog 196 #[.string s, .int .i64 16, .int .i64 most] w fun en w' => en = .returned (.tuple #[.int .i64 n, .int .i64 e]) ∧ Below w.heap.size w w' := by
  have HR := Lib.hid hr
  clear hr
  cases hz : s.data.toList.isEmpty
  case true =>
    have h2 : s.toList.isEmpty = true := by rw [isEmpty_list]; exact hz
    have hr : Hid ((0, 2) = (n, e)) := by show (0, 2) = (n, e); rw [← HR.out]; unfold numRes; rw [hz]; rfl
    clear hz
    go_enter Tryz.func196, Tryz.ntmps196
    go_wp2_with fail
    go_ret2
    obtain ⟨rfl, rfl⟩ := Prod.mk.inj hr.out
    exact ⟨rfl, Below.refl _ _⟩
  have h2 : s.toList.isEmpty = false := by rw [isEmpty_list]; exact hz
  have HZ := Lib.hid hz
  clear hz
  go_enter Tryz.func196, Tryz.ntmps196
  go_wp2_with fail
  go_loopw [8, 9] (fun nv ov wr => ∃ (k : Nat) (m : Int) (over : Bool), nv = .int .i64 m ∧ ov = .bool over ∧ m ≤ 9223372036854775807 ∧ k ≤ s.size ∧ wr.heap[w.heap.size]? = some (.stringIter s k) ∧ Below w.heap.size w wr ∧ NumI16 s most k m over) (fun _ _ wr => s.size - wr.iterPos w.heap.size)
  case atStart => exact ⟨0, 0, false, rfl, rfl, by omega, by omega, World.iter_heap w s 0, (Below.refl _ _).alloc (Nat.le_refl _) _, rfl, Int.le_refl _, fun _ => ⟨rfl, .inl rfl⟩, fun h => by cases h⟩
  case round =>
    obtain ⟨k, m, over, rfl, rfl, hmm, hp, hit, hbw, hI⟩ := hrel
    have HI := Lib.hid hI
    have HIT := Lib.hid hit
    have HBW := Lib.hid hbw
    have hm0' : 0 ≤ m := hI.2.1
    have hsz : w.heap.size < wr.heap.size := (Array.getElem?_eq_some_iff.1 hit).1
    clear hI hit hbw
    by_cases hlt : k < s.size
    · obtain ⟨r, wd, hr, hwd, hr0, hr1, hwd1, hq, hq1⟩ := rune_facts s k hlt
      have hnx : ∀ ty, (Instr.next (.pointer (some ⟨w.heap.size, 0, none⟩)) true ty).run Tryz.prog wr = .ok (.tuple #[.bool true, .int .i64 k, .int .i32 r]) (wr.iterAt w.heap.size s (k + wd)) := fun ty => by
        rw [Lib.run_next_any_at wr w.heap.size s k ty HIT.out hlt, hr, hwd]
      have HIT2 := Lib.hid (Lib.iterAt_heap wr w.heap.size s k (k + wd) HIT.out)
      have HBW2 := Lib.hid (Lib.below_iterAt HBW.out (k := w.heap.size) (Nat.le_refl _) s (k + wd))
      obtain ⟨d, hd⟩ : ∃ d, d = digV r := ⟨_, rfl⟩
      have hdr : -1 ≤ d ∧ d ≤ 15 := by rw [hd]; exact digV_range r
      have hd1 := hdr.1
      have hd2 := hdr.2
      have HD := Lib.hid hd
      have HQ := Lib.hid hq
      have HQ1 := Lib.hid hq1
      clear hr hwd hdr hd hq hq1
      go_wp2_with fail
      refine (digit_any r hr0 hr1 _).mono ?_
      rintro en w1 ⟨rfl, rfl⟩
      rw [← HD.out]
      by_cases hbad : d < 0 ∨ 16 ≤ d
      · have hR : Hid ((0, 3) = (n, e)) := by
          show (0, 3) = (n, e)
          rw [← HR.out]
          unfold numRes
          rw [HZ.out, all_not_at hlt (q := digB 16) (by unfold digB; rw [← HQ.out, ← HD.out, decide_eq_false_iff_not]; omega)]
          rfl
        rcases hbad with hbad | hbad
        · go_wp2_with fail
          go_ret2
          obtain ⟨rfl, rfl⟩ := Prod.mk.inj hR.out
          exact ⟨rfl, HBW2.out⟩
        · have hd0 : 0 ≤ d := by omega
          go_wp2_with fail
          go_ret2
          obtain ⟨rfl, rfl⟩ := Prod.mk.inj hR.out
          exact ⟨rfl, HBW2.out⟩
      · have hd0 : 0 ≤ d := by omega
        have hdB : d < 16 := by omega
        obtain rfl : wd = 1 := HQ1.out (by rw [← HD.out]; exact hd0)
        clear hbad
        have hdq : Hid (d = digV (s[k]'hlt).toNat) := by show d = _; rw [HD.out, HQ.out]
        cases over
        · by_cases h3 : most < d
          · go_wp2_with fail
            go_roundw
            case rel => exact ⟨k + 1, m, true, rfl, rfl, hmm, by omega, HIT2.out, HBW2.out, HI.out.next hlt hdq.out hd0 hdB (fun h => by cases h) (fun _ => .inr (.inl h3)) hm0'⟩
            case measure =>
              simp only [World.iterPos, HIT2.out, HIT.out]
              omega
          · have h3' : d ≤ most := by omega
            have hq0 : 0 ≤ (most - d) / 16 := by omega
            by_cases h4 : (most - d) / 16 < m
            · go_wp2_with fail
              go_roundw
              case rel => exact ⟨k + 1, m, true, rfl, rfl, hmm, by omega, HIT2.out, HBW2.out, HI.out.next hlt hdq.out hd0 hdB (fun h => by cases h) (fun _ => .inr (.inr h4)) hm0'⟩
              case measure =>
                simp only [World.iterPos, HIT2.out, HIT.out]
                omega
            · have h5 : m * 16 + d ≤ most := by omega
              have e1 : decide (most < d) = false := by rw [decide_eq_false_iff_not]; omega
              have e2 : decide ((most - d) / 16 < m) = false := by rw [decide_eq_false_iff_not]; omega
              go_wp2_with fail
              go_roundw
              case rel => exact ⟨k + 1, m * 16 + d, false, rfl, rfl, by omega, by omega, HIT2.out, HBW2.out, HI.out.next hlt hdq.out hd0 hdB (fun _ => ⟨rfl, rfl, h5⟩) (fun h => by cases h) (by omega)⟩
              case measure =>
                simp only [World.iterPos, HIT2.out, HIT.out]
                omega
        · go_wp2_with fail
          go_roundw
          case rel => exact ⟨k + 1, m, true, rfl, rfl, hmm, by omega, HIT2.out, HBW2.out, HI.out.next hlt hdq.out hd0 hdB (fun h => by cases h) (fun _ => .inl rfl) hm0'⟩
          case measure =>
            simp only [World.iterPos, HIT2.out, HIT.out]
            omega
    · have hnx : ∀ ty, (Instr.next (.pointer (some ⟨w.heap.size, 0, none⟩)) true ty).run Tryz.prog wr = _ := fun ty => Lib.run_next_end_at wr w.heap.size s k ty HIT.out hlt
      obtain rfl : k = s.size := by omega
      have hT : s.data.toList.take s.size = s.data.toList := List.take_of_length_le (by rw [← Lib.size_eq]; exact Nat.le_refl _)
      have HT := Lib.hid hT
      have hz0 : s.size ≠ 0 := fun h0 => by
        have h1 := HZ.out
        rw [Lib.size_eq, List.length_eq_zero_iff] at h0
        rw [h0] at h1
        cases h1
      cases over
      · have hR : Hid ((m, 0) = (n, e)) := by
          obtain ⟨a, b, c, _⟩ := HI.out
          rw [HT.out] at a c
          obtain ⟨c1, c2⟩ := c rfl
          show (m, 0) = (n, e)
          rw [← HR.out]
          unfold numRes
          rw [HZ.out, a, ← c1]
          rcases c2 with c2 | c2
          · exact absurd c2 hz0
          · simp [c2]
        clear hT hz0
        go_wp2_with fail
        go_ret2
        obtain ⟨rfl, rfl⟩ := Prod.mk.inj hR.out
        exact ⟨rfl, HBW.out⟩
      · have hR : Hid ((0, 5) = (n, e)) := by
          obtain ⟨a, b, _, c⟩ := HI.out
          rw [HT.out] at a c
          have c1 := c rfl
          show (0, 5) = (n, e)
          rw [← HR.out]
          unfold numRes
          rw [HZ.out, a, if_neg (by simp), if_neg (by simp), if_neg (by omega)]
        clear hT hz0
        go_wp2_with fail
        go_ret2
        obtain ⟨rfl, rfl⟩ := Prod.mk.inj hR.out
        exact ⟨rfl, HBW.out⟩
set_option maxRecDepth 100000 in
theorem hex_any (s : ByteArray) (most : Int) (hs : s.size ≤ 9223372036854775807) (hm : most ≤ 9223372036854775807) (hm0 : -9223372036854775808 ≤ most) (n e : Int) (hr : numRes s.data.toList 16 most = (n, e)) (w : World) :
    Calls Tryz.prog 177 #[.string s, .int .i64 most] w fun en w' => en = .returned (.tuple #[.int .i64 n, .int .i64 e]) ∧ Below w.heap.size w w' := by
  have HR := Lib.hid hr
  clear hr
  go_enter Tryz.func177, Tryz.ntmps177
  go_wp2_with fail
  refine (number_16 s most hs hm hm0 n e HR.out _).mono ?_
  rintro en w1 ⟨rfl, hb⟩
  go_wp2_with fail
  go_ret2
  exact ⟨rfl, hb⟩
end Go.Proofs.YtmoofcmmpemdcaaGreatDoor
