/- Texts packed for one claim, 28 of 49: Hdr Cur Quo Val. -/
import Derived.Test.YtbglakhojbhfbaaGreatDoorEncodeBackQ27
import Derived.Test.YtbglakhojbhfbaaGreatDoorEncodeBackQ9
import Derived.Lib.Join
import Derived.Test.YtbglakhojbhfbaaGreatDoorShelf
set_option linter.unusedSimpArgs false
set_option linter.unusedVariables false
-- Hdr
namespace Go.Proofs.YtbglakhojbhfbaaGreatDoor
open Go.RowKit
theorem below_drews {w w' : World} (h : ∃ m, w' = w.drewN m) : Below w.heap.size w w' := by
  obtain ⟨m, rfl⟩ := h
  exact below_drewN _ _
theorem allB_take (fs : List Fd) (name : ByteArray) (k : Nat) (h : k < fs.length) : allB (fs.take (k + 1)) name = if decide (lowB fs[k].1 = lowB name) = true then allB (fs.take k) name ++ [fs[k].2] else allB (fs.take k) name := by
  unfold allB
  rw [List.take_succ_eq_append_getElem h, List.filter_append, List.map_append, List.filter_cons]
  split
  · rfl
  · simp
theorem allB_len (fs : List Fd) (name : ByteArray) : (allB fs name).length ≤ fs.length := by
  unfold allB
  rw [List.length_map]
  exact List.length_filter_le _ _
theorem joinL_lib : ∀ l : List ByteArray, (⟨(Lib.join (l.map (·.data.toList)) [44, 32]).toArray⟩ : ByteArray) = joinL l
  | [] => rfl
  | [s] => by
    apply ext_list
    show (Lib.join [s.data.toList] [44, 32]) = s.data.toList
    rw [Lib.join_one]
  | s :: t :: l => by
    apply ext_list
    have h := congrArg (fun b : ByteArray => b.data.toList) (joinL_lib (t :: l))
    simp only at h
    have e : joinL (s :: t :: l) = s ++ ⟨#[44, 32]⟩ ++ joinL (t :: l) := rfl
    rw [e]
    simp only [ByteArray.toList_data_append, List.map_cons] at h ⊢
    rw [← h]
    show Lib.join (s.data.toList :: t.data.toList :: l.map (·.data.toList)) [44, 32] = _
    simp [Lib.join, List.intercalate]
theorem joinL_size : ∀ (l : List ByteArray) (B : Nat), (∀ s ∈ l, s.size ≤ B) → (joinL l).size ≤ l.length * (B + 2)
  | [], _, _ => Nat.zero_le _
  | [s], B, h => by
    have := h s (by simp)
    show s.size ≤ _
    simp
    omega
  | s :: t :: l, B, h => by
    have h1 := joinL_size (t :: l) B (fun x hx => h x (by simp [hx]))
    have h2 := h s (by simp)
    have e : joinL (s :: t :: l) = s ++ ⟨#[44, 32]⟩ ++ joinL (t :: l) := rfl
    rw [e, ByteArray.size_append, ByteArray.size_append, List.length_cons, Nat.succ_mul]
    have h3 : (⟨#[44, 32]⟩ : ByteArray).size = 2 := rfl
    omega
end Go.Proofs.YtbglakhojbhfbaaGreatDoor
-- Cur
namespace Go.Proofs.YtbglakhojbhfbaaGreatDoor
open Go.RowKit
/-- A cursor at block g: the text, and the place in it. -/
structure CurAt (w : World) (g : Nat) (s : ByteArray) (at_ : Nat) : Prop where
  k : Blk w g #[.string s, .int .i64 (at_ : Int)] 129
  le : at_ ≤ s.size
theorem CurAt.call {w w' : World} {g : Nat} {s : ByteArray} {a : Nat} (h : CurAt w g s a) (hb : Below w.heap.size w w') : CurAt w' g s a := ⟨h.k.call hb, h.le⟩
theorem rest_data (s : ByteArray) (a : Nat) : (s.extract a s.size).data.toList = s.data.toList.drop a := by
  rw [Lib.extract_data, List.take_of_length_le]
  rw [List.length_drop]
  simp
theorem tw_len {P : UInt8 → Bool} : ∀ (l : List UInt8) (k : Nat), k ≤ l.length → (∀ j (h : j < l.length), j < k → P l[j] = true) → (k = l.length ∨ ∃ h : k < l.length, P l[k] = false) → (l.takeWhile P).length = k
  | [], k, hk, _, _ => by simp at hk; simp [hk]
  | b :: l, 0, _, _, h => by
    rcases h with h | ⟨_, h⟩
    · simp at h
    · have : P b = false := h
      rw [List.takeWhile_cons, this]
      rfl
  | b :: l, k + 1, hk, ha, h => by
    have hb : P b = true := ha 0 (by simp) (by omega)
    rw [List.takeWhile_cons, hb, if_pos rfl, List.length_cons, tw_len l k (by simpa using hk) (fun j hj hjk => ha (j + 1) (by simpa using hj) (by omega)) (by
      rcases h with h | ⟨h1, h2⟩
      · left; simpa using h
      · exact Or.inr ⟨by simpa using h1, by simpa using h2⟩)]
theorem tw_bt {P : Int → Bool} {Q : UInt8 → Bool} {R : ByteArray} {k : Nat} (hPQ : ∀ b : UInt8, Q b = P b.toNat) (hk : k ≤ R.size) (ha : ∀ j, j < k → P (bt R j) = true) (h : k = R.size ∨ (k < R.size ∧ P (bt R k) = false)) : (R.data.toList.takeWhile Q).length = k := by
  have hl : R.data.toList.length = R.size := by simp
  have hg : ∀ j (h : j < R.data.toList.length), Q R.data.toList[j] = P (bt R j) := fun j h => by
    rw [hPQ, bt_get R j (by omega)]
    rfl
  refine tw_len _ k (by omega) (fun j hj hjk => by rw [hg j hj]; exact ha j hjk) ?_
  rcases h with h | ⟨h1, h2⟩
  · left; omega
  · exact Or.inr ⟨by omega, by rw [hg]; exact h2⟩
set_option maxRecDepth 100000 in
set_option maxHeartbeats 1000000 in
theorem left_any {w : World} {g at_ : Nat} {s : ByteArray} (h : CurAt w g s at_) (hs : s.size ≤ 1000000) :
    Calls Tryz.prog 94 #[.pointer (some ⟨g, 0, none⟩)] w fun e w' => e = .returned (.string (s.extract at_ s.size)) ∧ ∃ m, w' = w.drewN m := by
  have k0 := h.k.cell 0
  have k1 := h.k.cell 1
  simp at k0 k1
  have hle := h.le
  have hsl : ∀ V : World, (Instr.slice 9 (.string s) (some (.int .i64 (at_ : Int))) none none).run Tryz.prog V = .ok (.string (s.extract at_ s.size)) V := fun V => by
    rw [run_slice_string_l V 9 s Tryz.underlying9 .i64 (at_ : Int) (by omega) (by omega), Int.toNat_natCast]
  clear h hle
  go_enter Tryz.func94, Tryz.ntmps94
  go_wp2_with fail
  go_quiet (fail)
  go_wp2_with fail
  go_ret
  exact ⟨rfl, _, rfl⟩
set_option maxRecDepth 100000 in
theorem newc_any (s : ByteArray) (w : World) : Calls Tryz.prog 75 #[.string s] w fun e w' => e = .returned (.pointer (some ⟨w.heap.size, 0, none⟩)) ∧ w' = w.alloc (.cells #[.string s, .int .i64 0] 129) := by
  go_enter Tryz.func75, Tryz.ntmps75
  go_wp2_with fail
  go_ret
  exact ⟨rfl, rfl⟩
set_option maxRecDepth 100000 in
set_option maxHeartbeats 1000000 in
theorem cdone_any {w : World} {g at_ : Nat} {s : ByteArray} (h : CurAt w g s at_) (hs : s.size ≤ 1000000) :
    Calls Tryz.prog 82 #[.pointer (some ⟨g, 0, none⟩)] w fun e w' => e = .returned (.bool (s.data.toList.drop at_).isEmpty) ∧ Below w.heap.size w w' := by
  have HL := Lib.hid (left_any h hs)
  obtain ⟨R, hR⟩ : ∃ R, R = s.extract at_ s.size := ⟨_, rfl⟩
  rw [← hR] at HL
  have hRd : R.toList.isEmpty = (s.data.toList.drop at_).isEmpty := by rw [isEmpty_list, hR, rest_data]
  rw [← hRd]
  clear h hR hRd
  cases he : R.toList.isEmpty
  all_goals
    go_enter Tryz.func82, Tryz.ntmps82
    go_wp2_with (go_at_call 94; refine HL.out.mono ?_; rintro e1 w1 ⟨rfl, hb⟩; have HB := Lib.hid (below_drews hb); clear hb)
    go_ret
    exact ⟨rfl, HB.out⟩
theorem cur_set {w : World} {g : Nat} {s : ByteArray} {a b : Nat} (h : CurAt w g s a) (hb : b ≤ s.size) (v : Int) (hv : v = (b : Int)) : CurAt (w.setCell ⟨g, 1, none⟩ (.int .i64 v)) g s b := by
  subst hv
  have := h.k.set 1 (.int .i64 (b : Int))
  exact ⟨by simpa using this, hb⟩
/-- What a call of the cursor's may write. -/
def CurP (g : Nat) (k : Nat) : Prop := k = g
set_option maxRecDepth 100000 in
set_option maxHeartbeats 1000000 in
theorem take_any {w : World} {g at_ : Nat} {s : ByteArray} (h : CurAt w g s at_) (hs : s.size ≤ 1000000) (n : Nat) (hn : at_ + n ≤ s.size) :
    Calls Tryz.prog 90 #[.pointer (some ⟨g, 0, none⟩), .int .i64 (n : Int)] w fun e w' => e = .returned (.string (s.extract at_ (at_ + n))) ∧ CurAt w' g s (at_ + n) ∧ Touch (CurP g) w w' := by
  have HL := Lib.hid (left_any h hs)
  obtain ⟨R, hR⟩ : ∃ R, R = s.extract at_ s.size := ⟨_, rfl⟩
  rw [← hR] at HL
  have hRs : R.size = s.size - at_ := by rw [hR]; simp
  obtain ⟨X, hX⟩ : ∃ X, X = s.extract at_ (at_ + n) := ⟨_, rfl⟩
  have hsl : ∀ V : World, (Instr.slice 9 (.string R) none (some (.int .i64 (n : Int))) none).run Tryz.prog V = .ok (.string X) V := fun V => by
    rw [run_slice_string_h V 9 R Tryz.underlying9 .i64 (n : Int) (by omega) (by omega), Int.toNat_natCast, hX, hR, ByteArray.extract_extract]
    congr 3 <;> omega
  have H := Lib.hid h
  have hai : (at_ : Int) ≤ 1000000 := by omega
  have hni : (n : Int) ≤ 1000000 := by omega
  have HN := Lib.hid hn
  have hle := h.le
  rw [← hX]
  by_cases h0 : n = 0
  · have hp : decide ((0 : Int) < (n : Int)) = false := decide_eq_false (by omega)
    have hp2 : decide (0 < n) = false := decide_eq_false (by omega)
    have H0 := Lib.hid h0
    clear h hR hRs hX hle hn h0
    go_enter Tryz.func90, Tryz.ntmps90
    go_wp2_with (go_at_call 94; refine HL.out.mono ?_; rintro e1 w1 ⟨rfl, hb⟩; have HB := Lib.hid (below_drews hb); clear hb)
    go_ret
    refine ⟨rfl, ?_, Touch.of_below HB.out⟩
    rw [H0.out, Nat.add_zero]
    exact H.out.call HB.out
  · have hp : decide ((0 : Int) < (n : Int)) = true := decide_eq_true (by omega)
    have hp2 : decide (0 < n) = true := decide_eq_true (by omega)
    clear h hR hRs hX hle h0 hn
    go_enter Tryz.func90, Tryz.ntmps90
    go_wp2_with (go_at_call 94; refine HL.out.mono ?_; rintro e1 w1 ⟨rfl, hb⟩; have HB := Lib.hid (below_drews hb); have H1 := Lib.hid (H.out.call HB.out); have k1 := H1.out.k.cell 1; simp at k1; have f1 := H1.out.k.froz 1; clear hb)
    go_ret
    exact ⟨rfl, cur_set H1.out HN.out _ (by simp), Touch.setCell (P := CurP g) (Touch.of_below HB.out) (show CurP g g from rfl) _⟩
set_option maxRecDepth 100000 in
theorem skip1_any (r : Int) (_h0 : 0 ≤ r) (_h1 : r ≤ 255) (w : World) : Calls Tryz.prog 93 #[.int .u8 r] w fun e w' => e = .returned (.bool (isBl r)) ∧ Below w.heap.size w w' := by
  by_cases h1 : r = 32
  · have HV := Lib.hid (isBl_true (.inl h1))
    subst h1
    go_enter Tryz.func93, Tryz.ntmps93
    go_wp2_with fail
    go_ret
    rw [HV.out]
    exact ⟨rfl, Below.refl _ _⟩
  · have e1 : (r == 32) = false := by rw [beq_eq_false_iff_ne]; exact h1
    by_cases h2 : r = 9
    · have HV := Lib.hid (isBl_true (.inr h2))
      subst h2
      go_enter Tryz.func93, Tryz.ntmps93
      go_wp2_with fail
      go_ret
      rw [HV.out]
      exact ⟨rfl, Below.refl _ _⟩
    · have e2 : (r == 9) = false := by rw [beq_eq_false_iff_ne]; exact h2
      have HV := Lib.hid (isBl_false h1 h2)
      go_enter Tryz.func93, Tryz.ntmps93
      go_wp2_with fail
      go_ret
      rw [HV.out]
      exact ⟨rfl, Below.refl _ _⟩
set_option maxRecDepth 100000 in
theorem octTchar_any (r : Int) (h0 : 0 ≤ r) (h1 : r ≤ 255) (w : World) : Calls Tryz.prog 92 #[.int .u8 r] w fun e w' => e = .returned (.bool (tcharB r)) ∧ Below w.heap.size w w' := by
  have HT := Lib.hid (tchar_any r h0 w)
  go_enter Tryz.func92, Tryz.ntmps92
  go_wp2_with (go_at_call 53; refine HT.out.mono ?_; rintro e1 w1 ⟨rfl, hb⟩; have HB := Lib.hid hb; clear hb)
  go_ret
  exact ⟨rfl, HB.out⟩
set_option maxRecDepth 100000 in
set_option maxHeartbeats 2000000 in
theorem span_skip {w : World} {g at_ : Nat} {s : ByteArray} (h : CurAt w g s at_) (hs : s.size ≤ 1000000) :
    Calls Tryz.prog 91 #[.pointer (some ⟨g, 0, none⟩), .func (.func 93) #[] #[]] w fun e w' => e = .returned (.int .i64 ((skipN (s.data.toList.drop at_) : Nat) : Int)) ∧ Below w.heap.size w w' := by
  have HL := Lib.hid (left_any h hs)
  have hle := h.le
  obtain ⟨R, hR⟩ : ∃ R, R = s.extract at_ s.size := ⟨_, rfl⟩
  rw [← hR] at HL
  have hRd : R.data.toList = s.data.toList.drop at_ := by rw [hR, rest_data]
  have hRs : R.size ≤ 1000000 := by rw [hR]; simp; omega
  rw [← hRd]
  obtain ⟨N, hN⟩ : ∃ N, N = skipN R.data.toList := ⟨_, rfl⟩
  have HN := Lib.hid hN
  rw [← hN]
  clear h hle hR hRd hN
  go_enter Tryz.func91, Tryz.ntmps91
  go_wp2_with (go_at_call 94; refine HL.out.mono ?_; rintro e1 w1 ⟨rfl, hb⟩; have HB := Lib.hid (below_drews hb); clear hb)
  go_loopw [6] (fun i wr => ∃ k : Nat, k ≤ R.size ∧ i = .int .i64 k ∧ (∀ j, j < k → isBl (bt R j) = true) ∧ Below w.heap.size w wr) (fun i _ => R.size - (intOf i).toNat)
  case atStart => exact ⟨0, Nat.zero_le _, rfl, (fun j hj => absurd hj (Nat.not_lt_zero _)), HB.out⟩
  case round =>
    obtain ⟨k, hk, rfl, hall, hb⟩ := hrel
    have HA := Lib.hid hall
    have HB2 := Lib.hid hb
    clear hall hb
    by_cases hlt : k < R.size
    · have hk1 : decide ((k : Int) < (R.size : Int)) = true := decide_eq_true (by omega)
      have hix := index_bt R k hlt
      have hr := bt_range R k
      obtain ⟨x, hx⟩ : ∃ x, x = bt R k := ⟨_, rfl⟩
      rw [← hx] at hix hr
      have HX := Lib.hid hx
      obtain ⟨q, hq⟩ : ∃ q, q = isBl x := ⟨_, rfl⟩
      have HQ := Lib.hid hq
      have HF : Hid (∀ W : World, Calls Tryz.prog 93 #[.int .u8 x] W fun e w' => e = .returned (.bool q) ∧ Below W.heap.size W w') := fun W => by rw [hq]; exact skip1_any x hr.1 hr.2 W
      clear hx hr hq
      cases q with
      | true =>
        go_wp2_with (go_at_call 93; refine (HF.out _).mono ?_; rintro e2 w2 ⟨rfl, hb⟩; have HB3 := Lib.hid (HB2.out.trans (hb.mono HB2.out.size)); clear hb)
        go_roundw
        case rel =>
          refine ⟨k + 1, hlt, by go_num, fun j hj => ?_, HB3.out⟩
          rcases (by omega : j = k ∨ j < k) with rfl | h
          · rw [← HX.out, ← HQ.out]
          · exact HA.out j h
        case measure => simp [intOf]; omega
      | false =>
        have HE : Hid (N = k) := by
          show N = k
          rw [HN.out]
          exact tw_bt (P := isBl) (fun b => rfl) hk HA.out (Or.inr ⟨hlt, by rw [← HX.out, ← HQ.out]⟩)
        go_wp2_with (go_at_call 93; refine (HF.out _).mono ?_; rintro e2 w2 ⟨rfl, hb⟩; have HB3 := Lib.hid (HB2.out.trans (hb.mono HB2.out.size)); clear hb)
        go_ret
        rw [HE.out]
        exact ⟨rfl, HB3.out⟩
    · have hk1 : decide ((k : Int) < (R.size : Int)) = false := decide_eq_false (by omega)
      have HE : Hid (N = k) := by
        show N = k
        rw [HN.out]
        exact tw_bt (P := isBl) (fun b => rfl) hk HA.out (Or.inl (by omega))
      go_wp2_with fail
      go_ret
      rw [HE.out]
      exact ⟨rfl, HB2.out⟩
set_option maxRecDepth 100000 in
set_option maxHeartbeats 2000000 in
theorem span_tok {w : World} {g at_ : Nat} {s : ByteArray} (h : CurAt w g s at_) (hs : s.size ≤ 1000000) :
    Calls Tryz.prog 91 #[.pointer (some ⟨g, 0, none⟩), .func (.func 92) #[] #[]] w fun e w' => e = .returned (.int .i64 ((tokN (s.data.toList.drop at_) : Nat) : Int)) ∧ Below w.heap.size w w' := by
  have HL := Lib.hid (left_any h hs)
  have hle := h.le
  obtain ⟨R, hR⟩ : ∃ R, R = s.extract at_ s.size := ⟨_, rfl⟩
  rw [← hR] at HL
  have hRd : R.data.toList = s.data.toList.drop at_ := by rw [hR, rest_data]
  have hRs : R.size ≤ 1000000 := by rw [hR]; simp; omega
  rw [← hRd]
  obtain ⟨N, hN⟩ : ∃ N, N = tokN R.data.toList := ⟨_, rfl⟩
  have HN := Lib.hid hN
  rw [← hN]
  clear h hle hR hRd hN
  go_enter Tryz.func91, Tryz.ntmps91
  go_wp2_with (go_at_call 94; refine HL.out.mono ?_; rintro e1 w1 ⟨rfl, hb⟩; have HB := Lib.hid (below_drews hb); clear hb)
  go_loopw [6] (fun i wr => ∃ k : Nat, k ≤ R.size ∧ i = .int .i64 k ∧ (∀ j, j < k → tcharB (bt R j) = true) ∧ Below w.heap.size w wr) (fun i _ => R.size - (intOf i).toNat)
  case atStart => exact ⟨0, Nat.zero_le _, rfl, (fun j hj => absurd hj (Nat.not_lt_zero _)), HB.out⟩
  case round =>
    obtain ⟨k, hk, rfl, hall, hb⟩ := hrel
    have HA := Lib.hid hall
    have HB2 := Lib.hid hb
    clear hall hb
    by_cases hlt : k < R.size
    · have hk1 : decide ((k : Int) < (R.size : Int)) = true := decide_eq_true (by omega)
      have hix := index_bt R k hlt
      have hr := bt_range R k
      obtain ⟨x, hx⟩ : ∃ x, x = bt R k := ⟨_, rfl⟩
      rw [← hx] at hix hr
      have HX := Lib.hid hx
      obtain ⟨q, hq⟩ : ∃ q, q = tcharB x := ⟨_, rfl⟩
      have HQ := Lib.hid hq
      have HF : Hid (∀ W : World, Calls Tryz.prog 92 #[.int .u8 x] W fun e w' => e = .returned (.bool q) ∧ Below W.heap.size W w') := fun W => by rw [hq]; exact octTchar_any x hr.1 hr.2 W
      clear hx hr hq
      cases q with
      | true =>
        go_wp2_with (go_at_call 92; refine (HF.out _).mono ?_; rintro e2 w2 ⟨rfl, hb⟩; have HB3 := Lib.hid (HB2.out.trans (hb.mono HB2.out.size)); clear hb)
        go_roundw
        case rel =>
          refine ⟨k + 1, hlt, by go_num, fun j hj => ?_, HB3.out⟩
          rcases (by omega : j = k ∨ j < k) with rfl | h
          · rw [← HX.out, ← HQ.out]
          · exact HA.out j h
        case measure => simp [intOf]; omega
      | false =>
        have HE : Hid (N = k) := by
          show N = k
          rw [HN.out]
          exact tw_bt (P := tcharB) (fun b => rfl) hk HA.out (Or.inr ⟨hlt, by rw [← HX.out, ← HQ.out]⟩)
        go_wp2_with (go_at_call 92; refine (HF.out _).mono ?_; rintro e2 w2 ⟨rfl, hb⟩; have HB3 := Lib.hid (HB2.out.trans (hb.mono HB2.out.size)); clear hb)
        go_ret
        rw [HE.out]
        exact ⟨rfl, HB3.out⟩
    · have hk1 : decide ((k : Int) < (R.size : Int)) = false := decide_eq_false (by omega)
      have HE : Hid (N = k) := by
        show N = k
        rw [HN.out]
        exact tw_bt (P := tcharB) (fun b => rfl) hk HA.out (Or.inl (by omega))
      go_wp2_with fail
      go_ret
      rw [HE.out]
      exact ⟨rfl, HB2.out⟩
set_option maxRecDepth 100000 in
set_option maxHeartbeats 1000000 in
theorem skip_any {w : World} {g at_ : Nat} {s : ByteArray} (h : CurAt w g s at_) (hs : s.size ≤ 1000000) :
    Calls Tryz.prog 79 #[.pointer (some ⟨g, 0, none⟩)] w fun e w' => e = .returned (.int .i64 ((skipN (s.data.toList.drop at_) : Nat) : Int)) ∧ CurAt w' g s (at_ + skipN (s.data.toList.drop at_)) ∧ Touch (CurP g) w w' := by
  have HSP := Lib.hid (span_skip h hs)
  have hle := h.le
  have hn := skipN_le (s.data.toList.drop at_)
  rw [List.length_drop] at hn
  have hl : s.data.toList.length = s.size := by simp
  obtain ⟨n, hnn⟩ : ∃ n, n = skipN (s.data.toList.drop at_) := ⟨_, rfl⟩
  rw [← hnn] at HSP hn ⊢
  have HN : Hid (at_ + n ≤ s.size) := by show _ ≤ _; omega
  have H := Lib.hid h
  have hls : (s.extract at_ (at_ + n)).size = n := by simp; omega
  obtain ⟨X, hX⟩ : ∃ X, X = s.extract at_ (at_ + n) := ⟨_, rfl⟩
  have HX := Lib.hid hX
  rw [← hX] at hls
  have HLS := Lib.hid hls
  (try rw [← hX])
  clear h hle hn hl hnn hX hls
  go_enter Tryz.func79, Tryz.ntmps79
  go_wp2_with (first
    | (go_at_call 91; refine HSP.out.mono ?_; rintro e1 w1 ⟨rfl, hb⟩; have H1 := Lib.hid (H.out.call hb); have HB := Lib.hid hb; clear hb)
    | (go_at_call 90; refine (take_any H1.out hs n HN.out).mono ?_; rintro e2 w2 ⟨rfl, hc, ht⟩; rw [← HX.out]; have HC := Lib.hid hc; have HT := Lib.hid ht; clear hc ht))
  go_ret
  (try rw [HLS.out])
  exact ⟨rfl, HC.out, (Touch.of_below HB.out).trans HT.out⟩
set_option maxRecDepth 100000 in
set_option maxHeartbeats 1000000 in
theorem ctoken_any {w : World} {g at_ : Nat} {s : ByteArray} (h : CurAt w g s at_) (hs : s.size ≤ 1000000) :
    Calls Tryz.prog 77 #[.pointer (some ⟨g, 0, none⟩)] w fun e w' => e = .returned (.string (s.extract at_ (at_ + tokN (s.data.toList.drop at_)))) ∧ CurAt w' g s (at_ + tokN (s.data.toList.drop at_)) ∧ Touch (CurP g) w w' := by
  have HSP := Lib.hid (span_tok h hs)
  have hle := h.le
  have hn := tokN_le (s.data.toList.drop at_)
  rw [List.length_drop] at hn
  have hl : s.data.toList.length = s.size := by simp
  obtain ⟨n, hnn⟩ : ∃ n, n = tokN (s.data.toList.drop at_) := ⟨_, rfl⟩
  rw [← hnn] at HSP hn ⊢
  have HN : Hid (at_ + n ≤ s.size) := by show _ ≤ _; omega
  have H := Lib.hid h
  have hls : (s.extract at_ (at_ + n)).size = n := by simp; omega
  obtain ⟨X, hX⟩ : ∃ X, X = s.extract at_ (at_ + n) := ⟨_, rfl⟩
  have HX := Lib.hid hX
  rw [← hX] at hls
  have HLS := Lib.hid hls
  (try rw [← hX])
  clear h hle hn hl hnn hX hls
  go_enter Tryz.func77, Tryz.ntmps77
  go_wp2_with (first
    | (go_at_call 91; refine HSP.out.mono ?_; rintro e1 w1 ⟨rfl, hb⟩; have H1 := Lib.hid (H.out.call hb); have HB := Lib.hid hb; clear hb)
    | (go_at_call 90; refine (take_any H1.out hs n HN.out).mono ?_; rintro e2 w2 ⟨rfl, hc, ht⟩; rw [← HX.out]; have HC := Lib.hid hc; have HT := Lib.hid ht; clear hc ht))
  go_ret
  (try rw [HLS.out])
  exact ⟨rfl, HC.out, (Touch.of_below HB.out).trans HT.out⟩
/-- Is the next octet this one? -/
def isB (c : Int) (l : List UInt8) : Bool := match l with
  | [] => false
  | b :: _ => decide ((b.toNat : Int) = c)
set_option maxRecDepth 100000 in
set_option maxHeartbeats 2000000 in
theorem byte_any {w : World} {g at_ : Nat} {s : ByteArray} (h : CurAt w g s at_) (hs : s.size ≤ 1000000) (c : Int) :
    Calls Tryz.prog 80 #[.pointer (some ⟨g, 0, none⟩), .int .u8 c] w fun e w' => e = .returned (.bool (isB c (s.data.toList.drop at_))) ∧ CurAt w' g s (at_ + if isB c (s.data.toList.drop at_) = true then 1 else 0) ∧ Touch (CurP g) w w' := by
  have HL := Lib.hid (left_any h hs)
  have hle := h.le
  obtain ⟨R, hR⟩ : ∃ R, R = s.extract at_ s.size := ⟨_, rfl⟩
  rw [← hR] at HL
  have hRd : R.data.toList = s.data.toList.drop at_ := by rw [hR, rest_data]
  have hRs : R.size = s.size - at_ := by rw [hR]; simp
  have H := Lib.hid h
  rw [← hRd]
  cases hd : R.data.toList with
  | nil =>
    have he : R.toList.isEmpty = true := by rw [isEmpty_list, hd]; rfl
    clear h hle hR hRd hRs hd
    go_enter Tryz.func80, Tryz.ntmps80
    go_wp2_with (go_at_call 94; refine HL.out.mono ?_; rintro e1 w1 ⟨rfl, hb⟩; have HB := Lib.hid (below_drews hb); clear hb)
    go_ret
    exact ⟨rfl, H.out.call HB.out, Touch.of_below HB.out⟩
  | cons b l =>
    have he : R.toList.isEmpty = false := by rw [isEmpty_list, hd]; rfl
    have hp : 0 < R.size := by
      have : R.data.toList.length = R.size := by simp
      rw [hd] at this
      simp at this
      omega
    have hix : ∀ W : World, (Instr.index 9 (.string R) (.int .i64 0)).run Tryz.prog W = .ok (.int .u8 (bt R 0)) W := index_bt R 0 hp
    have hx : bt R 0 = b.toNat := by
      rw [bt_get R 0 hp]
      have h0 : R.data.toList[0]? = some (R[0]'hp) := List.getElem?_eq_getElem (by simpa using hp)
      rw [hd] at h0
      have : b = R[0]'hp := Option.some.inj h0
      rw [this]
    obtain ⟨x, hxx⟩ : ∃ x, x = bt R 0 := ⟨_, rfl⟩
    rw [← hxx] at hix hx
    have hv : isB c (b :: l) = decide (x = c) := by rw [hx]; rfl
    rw [hv]
    have HN : Hid (at_ + 1 ≤ s.size) := by show _ ≤ _; omega
    clear h hle hR hRd hRs hd hxx hx hv hp
    by_cases hc : x = c
    · subst hc
      go_enter Tryz.func80, Tryz.ntmps80
      go_wp2_with (first
        | (go_at_call 94; refine HL.out.mono ?_; rintro e1 w1 ⟨rfl, hb⟩; have HB := Lib.hid (below_drews hb); have H1 := Lib.hid (H.out.call HB.out); clear hb)
        | (go_at_call 90; refine (take_any H1.out hs 1 HN.out).mono ?_; rintro e2 w2 ⟨rfl, hc2, ht⟩; have HC := Lib.hid hc2; have HT := Lib.hid ht; clear hc2 ht))
      go_ret
      exact ⟨rfl, HC.out, (Touch.of_below HB.out).trans HT.out⟩
    · have e1 : (x == c) = false := by rw [beq_eq_false_iff_ne]; exact hc
      have e2 : (x != c) = true := by rw [bne_iff_ne]; exact hc
      have e3 : decide (x = c) = false := decide_eq_false hc
      rw [e3]
      clear hc
      go_enter Tryz.func80, Tryz.ntmps80
      go_wp2_with (go_at_call 94; refine HL.out.mono ?_; rintro e1 w1 ⟨rfl, hb⟩; have HB := Lib.hid (below_drews hb); clear hb)
      go_ret
      exact ⟨rfl, H.out.call HB.out, Touch.of_below HB.out⟩
end Go.Proofs.YtbglakhojbhfbaaGreatDoor
-- Quo
namespace Go.Proofs.YtbglakhojbhfbaaGreatDoor
open Go.RowKit
theorem touch_up {P Q : Nat → Prop} {w w1 w2 : World} (h : Touch P w w1) (k : Touch Q w1 w2) (hq : ∀ i, i < w.heap.size → Q i → P i) : Touch P w w2 :=
  ⟨k.os.trans h.os, k.tape.trans h.tape, k.output.trans h.output, Nat.le_trans h.size k.size, fun i hi hP => (k.block i (Nat.lt_of_lt_of_le hi h.size) fun hQ => hP (hq i hi hQ)).trans (h.block i hi hP)⟩
theorem take_v {w : World} {g at_ : Nat} {s : ByteArray} (h : CurAt w g s at_) (hs : s.size ≤ 1000000) (n : Nat) (v : Int) (hv : v = (n : Int)) (hn : at_ + n ≤ s.size) :
    Calls Tryz.prog 90 #[.pointer (some ⟨g, 0, none⟩), .int .i64 v] w fun e w' => e = .returned (.string (s.extract at_ (at_ + n))) ∧ CurAt w' g s (at_ + n) ∧ Touch (CurP g) w w' := by
  subst hv
  exact take_any h hs n hn
def quT : Option (Nat × List UInt8) → ByteArray
  | none => ⟨#[]⟩
  | some p => ⟨p.2.toArray⟩
def quN : Option (Nat × List UInt8) → Nat
  | none => 0
  | some p => p.1
theorem qtL_end : qtL [] = none := by rw [qtL]
theorem qtL_mark (t : List UInt8) : qtL (34 :: t) = some (1, []) := by rw [qtL.eq_def]; rfl
theorem qtL_slash : qtL [92] = none := by rw [qtL.eq_def]; rfl
theorem qtL_pair (c : UInt8) (r : List UInt8) : qtL (92 :: c :: r) = if valueB c.toNat = true then (qtL r).map (fun p => (p.1 + 2, c :: p.2)) else none := by rw [qtL.eq_def]; rfl
theorem qtL_one {b : UInt8} (t : List UInt8) (h1 : b ≠ 34) (h2 : b ≠ 92) : qtL (b :: t) = if valueB b.toNat = true then (qtL t).map (fun p => (p.1 + 1, b :: p.2)) else none := by
  rw [qtL.eq_def]
  simp only
  rw [if_neg h1, if_neg h2]
set_option maxRecDepth 100000 in
set_option maxHeartbeats 8000000 in
theorem quoted_any {w : World} {g at_ : Nat} {s : ByteArray} (h : CurAt w g s at_) (hs : s.size ≤ 1000000) {Q : Option (Nat × List UInt8)} (hQ : Q = quL (s.data.toList.drop at_)) :
    Calls Tryz.prog 95 #[.pointer (some ⟨g, 0, none⟩)] w fun e w' => e = .returned (.tuple #[.string (quT Q), .bool Q.isSome]) ∧ CurAt w' g s (at_ + quN Q) ∧ Touch (CurP g) w w' := by
  have HL := Lib.hid (left_any h hs)
  have hle := h.le
  have hqs : ∀ p, Q = some p → p.1 ≤ s.size - at_ := fun p hp => by
    have := (quL_le (hQ.symm.trans hp)).2.1
    rw [List.length_drop] at this
    simpa using this
  have HQS := Lib.hid hqs
  obtain ⟨R, hR⟩ : ∃ R, R = s.extract at_ s.size := ⟨_, rfl⟩
  rw [← hR] at HL
  have hRd : R.data.toList = s.data.toList.drop at_ := by rw [hR, rest_data]
  have hRs : R.size = s.size - at_ := by rw [hR]; simp
  have H := Lib.hid h
  have HG0 := Lib.hid h.k.lt
  have HRS := Lib.hid hRs
  rw [← hRd] at hQ
  have hRi : (R.size : Int) ≤ 1000000 := by omega
  have hRl : R.data.toList.length = R.size := by simp
  have HRL := Lib.hid hRl
  clear h hR hRd hRs hqs
  by_cases hm : isB 34 R.data.toList = true
  rotate_left
  · have hq0 : Q = none := by
      rw [hQ]
      cases hd : R.data.toList with
      | nil => rfl
      | cons b t =>
        rw [hd] at hm
        unfold quL
        simp only
        rw [if_neg]
        rintro rfl
        exact hm (by simp [isB])
    subst hq0
    by_cases h0 : R.size = 0
    · have he : R.toList.isEmpty = true := by
        rw [isEmpty_list, List.isEmpty_iff]
        exact List.eq_nil_of_length_eq_zero (by omega)
      clear hm hQ h0 hRl hle
      go_enter Tryz.func95, Tryz.ntmps95
      go_wp2_with (go_at_call 94; refine HL.out.mono ?_; rintro e1 w1 ⟨rfl, hb⟩; have HB := Lib.hid (below_drews hb); clear hb)
      go_ret2
      exact ⟨rfl, H.out.call HB.out, Touch.of_below HB.out⟩
    · have he : R.toList.isEmpty = false := by
        rw [isEmpty_list, List.isEmpty_eq_false_iff]
        intro e
        rw [e] at hRl
        simp at hRl
        omega
      have hix : ∀ W : World, (Instr.index 9 (.string R) (.int .i64 0)).run Tryz.prog W = .ok (.int .u8 (bt R 0)) W := index_bt R 0 (by omega)
      obtain ⟨x, hx⟩ : ∃ x, x = bt R 0 := ⟨_, rfl⟩
      rw [← hx] at hix
      have hne : x ≠ 34 := by
        intro h34
        refine hm ?_
        obtain ⟨c, hc, hdr⟩ := bt_drop R 0 (by omega)
        rw [List.drop_zero] at hdr
        rw [hdr]
        unfold isB
        rw [decide_eq_true_eq]
        omega
      have x1 : (x == 34) = false := by rw [beq_eq_false_iff_ne]; exact hne
      have x2 : (x != 34) = true := by rw [bne_iff_ne]; exact hne
      have x3 : decide (x = 34) = false := decide_eq_false hne
      clear hm hQ h0 hRl hle hx hne
      go_enter Tryz.func95, Tryz.ntmps95
      go_wp2_with (go_at_call 94; refine HL.out.mono ?_; rintro e1 w1 ⟨rfl, hb⟩; have HB := Lib.hid (below_drews hb); clear hb)
      go_ret2
      exact ⟨rfl, H.out.call HB.out, Touch.of_below HB.out⟩
  · have hp : 0 < R.size := by
      rcases Nat.eq_zero_or_pos R.size with h0 | h0
      · have : R.data.toList = [] := List.eq_nil_of_length_eq_zero (by omega)
        rw [this] at hm
        cases hm
      · exact h0
    obtain ⟨c, hc, hdr⟩ := bt_drop R 0 hp
    rw [List.drop_zero] at hdr
    have hc34 : c = 34 := by
      rw [hdr] at hm
      unfold isB at hm
      rw [decide_eq_true_eq] at hm
      exact UInt8.toNat_inj.1 (by have : (34 : UInt8).toNat = 34 := rfl
                                  omega)
    subst hc34
    have hix : ∀ W : World, (Instr.index 9 (.string R) (.int .i64 0)).run Tryz.prog W = .ok (.int .u8 34) W := fun W => by
      have h := index_bt R 0 hp W
      rw [hc] at h
      exact h
    have hQ0 : Q = (qtL (R.data.toList.drop 1)).map (fun p => (p.1 + 1, [] ++ p.2)) := by
      rw [hQ]
      have e : quL R.data.toList = quL (34 :: R.data.toList.drop 1) := by rw [← hdr]
      rw [e]
      unfold quL
      simp only
      rw [if_pos trivial]
      rfl
    have HQ0 := Lib.hid hQ0
    have he : R.toList.isEmpty = false := by
      rw [isEmpty_list, List.isEmpty_eq_false_iff]
      intro e
      rw [e] at hRl
      simp at hRl
      omega
    clear hm hQ hQ0 hc hdr hRl
    go_enter Tryz.func95, Tryz.ntmps95
    go_wp2_with (go_at_call 94; refine HL.out.mono ?_; rintro e1 w1 ⟨rfl, hb⟩; have HB := Lib.hid (below_drews hb); clear hb)
    go_loopw [5, 6] (fun u5 u6 wr => ∃ (k : Nat) (acc : List UInt8), 1 ≤ k ∧ k ≤ R.size ∧ u6 = .int .i64 k ∧ OwnB wr w.heap.size u5 acc ∧ Q = (qtL (R.data.toList.drop k)).map (fun p => (p.1 + k, acc ++ p.2)) ∧ acc.length ≤ k ∧ CurAt wr g s at_ ∧ Touch (CurP g) w wr) (fun _ u6 _ => R.size - (intOf u6).toNat)
    case atStart => exact ⟨1, [], Nat.le_refl _, hp, rfl, OwnB.start _ _, HQ0.out, Nat.zero_le _, H.out.call HB.out, Touch.of_below HB.out⟩
    case round =>
      obtain ⟨k, acc, hk1, hk, rfl, ho, hq, hac, hcu, ht⟩ := hrel
      have HO := Lib.hid ho
      have HAC := Lib.hid hac
      have HC := Lib.hid hcu
      have HT := Lib.hid ht
      have HG : Hid (g < w.heap.size) := HG0.out
      have HAB : Hid (acc.length ≤ 1000000) := by show _ ≤ _; omega
      clear ho hac hcu ht
      by_cases hlt : k < R.size
      · have hk1 : decide ((k : Int) < (R.size : Int)) = true := decide_eq_true (by omega)
        have hix2 := index_bt R k hlt
        obtain ⟨c, hc, hdr⟩ := bt_drop R k hlt
        obtain ⟨x, hx⟩ : ∃ x, x = bt R k := ⟨_, rfl⟩
        rw [← hx] at hix2 hc
        rw [hdr] at hq
        by_cases h34 : x = 34
        · have hc34 : c = 34 := UInt8.toNat_inj.1 (by have : (34 : UInt8).toNat = 34 := rfl
                                                      omega)
          rw [hc34, qtL_mark] at hq
          have HQ : Hid (Q = some (1 + k, acc)) := by show _ = _; rw [hq]; simp
          have HN : Hid (at_ + (k + 1) ≤ s.size) := by show _ ≤ _; have := HRS.out; omega
          subst h34
          clear hx hc hdr hq hc34
          go_wp2_with (go_at_call 90; refine (take_v HC.out hs (k + 1) _ (by omega) HN.out).mono ?_; rintro e2 w2 ⟨rfl, hc2, ht2⟩; have HC2 := Lib.hid hc2; have HT2 := Lib.hid (HT.out.trans ht2); have kc := ownB_str (own_touch HO.out ht2 (fun j hj e => by have h1 := ownB_blk HO.out j hj; rw [show j = g from e] at h1; exact absurd h1 (Nat.not_le_of_lt HG.out))); clear hc2 ht2)
          go_ret2
          rw [HQ.out]
          refine ⟨rfl, ?_, HT2.out⟩
          show CurAt w2 g s (at_ + (1 + k))
          rw [Nat.add_comm 1 k]
          exact HC2.out
        have x34a : (x == 34) = false := by rw [beq_eq_false_iff_ne]; exact h34
        have x34b : (x != 34) = true := by rw [bne_iff_ne]; exact h34
        have x34d : decide (x = 34) = false := decide_eq_false h34
        have hc34 : c ≠ 34 := by rintro rfl; exact h34 hc
        by_cases h92 : x = 92
        · have hc92 : c = 92 := UInt8.toNat_inj.1 (by have : (92 : UInt8).toNat = 92 := rfl
                                                      omega)
          rw [hc92] at hq
          subst h92
          by_cases hend : k + 1 = R.size
          · have e1 : ((k : Int) + 1 == (R.size : Int)) = true := by rw [beq_iff_eq]; omega
            have HQ : Hid (Q = none) := by
              show _ = _
              rw [hq, hend, List.drop_of_length_le (by have := HRL.out; omega), qtL_slash]
              rfl
            clear hx hc hdr hq hc92 hc34 h34 hend
            go_wp2_with fail
            go_ret2
            rw [HQ.out]
            exact ⟨rfl, HC.out, HT.out⟩
          · have e1 : ((k : Int) + 1 == (R.size : Int)) = false := by rw [beq_eq_false_iff_ne]; omega
            have hlt2 : k + 1 < R.size := by omega
            obtain ⟨d, hd, hdr2⟩ := bt_drop R (k + 1) hlt2
            have hix3 : ∀ W : World, (Instr.index 9 (.string R) (.int .i64 ((k : Int) + 1))).run Tryz.prog W = .ok (.int .u8 (bt R (k + 1))) W := fun W => by
              have h := index_bt R (k + 1) hlt2 W
              rw [show ((k + 1 : Nat) : Int) = (k : Int) + 1 by omega] at h
              exact h
            obtain ⟨y, hy⟩ : ∃ y, y = bt R (k + 1) := ⟨_, rfl⟩
            rw [← hy] at hix3 hd
            have HY8 : Hid (y = (d.toNat : Int)) := hd
            have HQ : Hid (Q = if valueB d.toNat = true then (qtL (R.data.toList.drop (k + 2))).map (fun p => (p.1 + (k + 2), (acc ++ [d]) ++ p.2)) else none) := by
              show _ = _
              rw [hq, hdr2, qtL_pair]
              split
              · rw [Option.map_map]
                congr 1
                funext p
                simp
                omega
              · rfl
            clear hx hc hdr hq hc92 hc34 h34 hend hd hdr2 hy
            have hcv : (convert 61 9 (.slice (some ⟨wr.heap.size, 0, none⟩) 1 1)).run Tryz.prog (wr.alloc (.cells #[.int .u8 y] 5)) = .ok (.string ⟨#[d]⟩) (wr.alloc (.cells #[.int .u8 y] 5)) := by
              refine run_convert_bytes_back (P := Tryz.prog) _ 61 9 5 ⟨wr.heap.size, 0, none⟩ 1 [d] Tryz.underlying61 Tryz.underlying5 Tryz.underlying9 (fun j hj => ?_)
              have hj0 : j = 0 := by simp at hj; omega
              subst hj0
              rw [addr_add]
              have := (Blk.new wr #[.int .u8 y] 5).cell 0
              rw [this, HY8.out]
              rfl
            have HVL := Lib.hid (value_any ⟨#[d]⟩ (show (1 : Nat) ≤ 9223372036854775807 by decide) (wr.alloc (.cells #[.int .u8 y] 5)))
            have HAL := Lib.hid ((Below.refl wr.heap.size wr).alloc (Nat.le_refl _) (.cells #[.int .u8 y] 5))
            have hvl : valL (⟨#[d]⟩ : ByteArray).data.toList = valueB d.toNat := by
              show ([d] : List UInt8).all _ = _
              simp
            rw [hvl] at HVL
            clear hvl
            cases hv : valueB d.toNat with
            | true =>
              rw [hv] at HVL
              have HQ2 := HQ.out
              rw [if_pos hv] at HQ2
              have HQ3 := Lib.hid HQ2
              clear hv HQ2
              go_wp2_with (first
                | (go_at_call 41; refine HVL.out.mono ?_; rintro e3 w3 ⟨rfl, hb⟩; have HB3 := Lib.hid (HAL.out.trans (hb.mono HAL.out.size)); have HO3 : Hid (OwnB w3 w.heap.size u5 acc) := (own_touch HO.out (Touch.of_below (P := fun _ => False) HB3.out) (fun _ _ => id)); have HZ3 : Hid (w.heap.size ≤ w3.heap.size) := Nat.le_trans HT.out.size HB3.out.size; clear hb)
                | (at_builtin; refine wpList_push_byte rfl _ _ rfl rfl HO3.out d _ HY8.out rfl HAB.out HZ3.out ?_; intro g4 c4 w4 ho4 ht4 _; have HO4 := Lib.hid ho4; have HT4 := Lib.hid (touch_up (touch_up HT.out (Touch.of_below (P := fun _ => False) HB3.out) (fun _ _ h => h.elim)) ht4 (fun i hi h => absurd (ownB_blk HO3.out i h) (Nat.not_le_of_lt hi))); have HC4 := Lib.hid (CurAt.mk (((HC.out.call HB3.out).k).touch ht4 (fun e => absurd (ownB_blk HO3.out g e) (Nat.not_le_of_lt HG.out))) HC.out.le); clear ho4 ht4))
              go_roundw
              case rel => exact ⟨k + 2, acc ++ [d], by omega, by omega, by go_num, HO4.out, HQ3.out, by have := HAC.out; simp; omega, HC4.out, HT4.out⟩
              case measure => simp [intOf]; omega
            | false =>
              rw [hv] at HVL
              have HQ2 := HQ.out
              rw [if_neg (by rw [hv]; decide)] at HQ2
              have HQ3 := Lib.hid HQ2
              clear hv HQ2
              go_wp2_with (go_at_call 41; refine HVL.out.mono ?_; rintro e3 w3 ⟨rfl, hb⟩; have HB3 := Lib.hid (HAL.out.trans (hb.mono HAL.out.size)); clear hb)
              go_ret2
              rw [HQ3.out]
              exact ⟨rfl, HC.out.call HB3.out, touch_up HT.out (Touch.of_below (P := fun _ => False) HB3.out) (fun _ _ h => h.elim)⟩
        have x92a : (x == 92) = false := by rw [beq_eq_false_iff_ne]; exact h92
        have x92d : decide (x = 92) = false := decide_eq_false h92
        have hc92 : c ≠ 92 := by rintro rfl; exact h92 hc
        have HY8 : Hid (x = (c.toNat : Int)) := hc
        have HQ : Hid (Q = if valueB c.toNat = true then (qtL (R.data.toList.drop (k + 1))).map (fun p => (p.1 + (k + 1), (acc ++ [c]) ++ p.2)) else none) := by
          show _ = _
          rw [hq, qtL_one _ hc34 hc92]
          split
          · rw [Option.map_map]
            congr 1
            funext p
            simp
            omega
          · rfl
        clear hx hc hdr hq hc92 hc34 h34 h92
        have hcv : (convert 61 9 (.slice (some ⟨wr.heap.size, 0, none⟩) 1 1)).run Tryz.prog (wr.alloc (.cells #[.int .u8 x] 5)) = .ok (.string ⟨#[c]⟩) (wr.alloc (.cells #[.int .u8 x] 5)) := by
          refine run_convert_bytes_back (P := Tryz.prog) _ 61 9 5 ⟨wr.heap.size, 0, none⟩ 1 [c] Tryz.underlying61 Tryz.underlying5 Tryz.underlying9 (fun j hj => ?_)
          have hj0 : j = 0 := by simp at hj; omega
          subst hj0
          rw [addr_add]
          have := (Blk.new wr #[.int .u8 x] 5).cell 0
          rw [this, HY8.out]
          rfl
        have HVL := Lib.hid (value_any ⟨#[c]⟩ (show (1 : Nat) ≤ 9223372036854775807 by decide) (wr.alloc (.cells #[.int .u8 x] 5)))
        have HAL := Lib.hid ((Below.refl wr.heap.size wr).alloc (Nat.le_refl _) (.cells #[.int .u8 x] 5))
        have hvl : valL (⟨#[c]⟩ : ByteArray).data.toList = valueB c.toNat := by
          show ([c] : List UInt8).all _ = _
          simp
        rw [hvl] at HVL
        clear hvl
        cases hv : valueB c.toNat with
        | true =>
          rw [hv] at HVL
          have HQ2 := HQ.out
          rw [if_pos hv] at HQ2
          have HQ3 := Lib.hid HQ2
          clear hv HQ2
          go_wp2_with (first
            | (go_at_call 41; refine HVL.out.mono ?_; rintro e3 w3 ⟨rfl, hb⟩; have HB3 := Lib.hid (HAL.out.trans (hb.mono HAL.out.size)); have HO3 : Hid (OwnB w3 w.heap.size u5 acc) := (own_touch HO.out (Touch.of_below (P := fun _ => False) HB3.out) (fun _ _ => id)); have HZ3 : Hid (w.heap.size ≤ w3.heap.size) := Nat.le_trans HT.out.size HB3.out.size; clear hb)
            | (at_builtin; refine wpList_push_byte rfl _ _ rfl rfl HO3.out c _ HY8.out rfl HAB.out HZ3.out ?_; intro g4 c4 w4 ho4 ht4 _; have HO4 := Lib.hid ho4; have HT4 := Lib.hid (touch_up (touch_up HT.out (Touch.of_below (P := fun _ => False) HB3.out) (fun _ _ h => h.elim)) ht4 (fun i hi h => absurd (ownB_blk HO3.out i h) (Nat.not_le_of_lt hi))); have HC4 := Lib.hid (CurAt.mk (((HC.out.call HB3.out).k).touch ht4 (fun e => absurd (ownB_blk HO3.out g e) (Nat.not_le_of_lt HG.out))) HC.out.le); clear ho4 ht4))
          go_roundw
          case rel => exact ⟨k + 1, acc ++ [c], by omega, by omega, by go_num, HO4.out, HQ3.out, by have := HAC.out; simp; omega, HC4.out, HT4.out⟩
          case measure => simp [intOf]; omega
        | false =>
          rw [hv] at HVL
          have HQ2 := HQ.out
          rw [if_neg (by rw [hv]; decide)] at HQ2
          have HQ3 := Lib.hid HQ2
          clear hv HQ2
          go_wp2_with (go_at_call 41; refine HVL.out.mono ?_; rintro e3 w3 ⟨rfl, hb⟩; have HB3 := Lib.hid (HAL.out.trans (hb.mono HAL.out.size)); clear hb)
          go_ret2
          rw [HQ3.out]
          exact ⟨rfl, HC.out.call HB3.out, touch_up HT.out (Touch.of_below (P := fun _ => False) HB3.out) (fun _ _ h => h.elim)⟩
      · have hk2 : decide ((k : Int) < (R.size : Int)) = false := decide_eq_false (by omega)
        have HQ : Hid (Q = none) := by
          show _ = _
          rw [hq, List.drop_of_length_le (by have := HRL.out; omega), qtL_end]
          rfl
        clear hq
        go_wp2_with fail
        go_ret2
        rw [HQ.out]
        exact ⟨rfl, HC.out, HT.out⟩
end Go.Proofs.YtbglakhojbhfbaaGreatDoor
-- Val
namespace Go.Proofs.YtbglakhojbhfbaaGreatDoor
open Go.RowKit
theorem tokN_zero {s : ByteArray} {a : Nat} (h : a + tokN (s.data.toList.drop a) ≤ s.size) : (s.extract a (a + tokN (s.data.toList.drop a))).toList.isEmpty = decide (tokN (s.data.toList.drop a) = 0) := by
  rw [isEmpty_list, Bool.eq_iff_iff, List.isEmpty_iff, decide_eq_true_eq]
  have hl : (s.extract a (a + tokN (s.data.toList.drop a))).data.toList.length = tokN (s.data.toList.drop a) := by
    rw [← Lib.size_eq]
    simp
    omega
  constructor
  · intro e
    rw [e] at hl
    simpa using hl.symm
  · intro e
    exact List.eq_nil_of_length_eq_zero (by omega)
theorem isB_iff {c : UInt8} {n : Int} (hn : n = c.toNat) {l : List UInt8} : isB n l = true ↔ ∃ t, l = c :: t := by
  cases l with
  | nil =>
    constructor
    · intro h
      cases h
    · rintro ⟨t, h⟩
      cases h
  | cons b t =>
    unfold isB
    rw [decide_eq_true_eq]
    constructor
    · intro h
      exact ⟨t, by rw [UInt8.toNat_inj.1 (show b.toNat = c.toNat by omega)]⟩
    · rintro ⟨t', h⟩
      injection h with h _
      rw [h, hn]
set_option maxRecDepth 100000 in
set_option maxHeartbeats 4000000 in
theorem pvalue_any {w : World} {g at_ : Nat} {s : ByteArray} (h : CurAt w g s at_) (hs : s.size ≤ 1000000) {V : Option Nat} (hV : V = valF (s.data.toList.drop at_)) :
    Calls Tryz.prog 81 #[.pointer (some ⟨g, 0, none⟩)] w fun e w' => ∃ t a', e = .returned (.tuple #[.string t, .bool V.isSome]) ∧ CurAt w' g s a' ∧ (∀ n, V = some n → a' = at_ + n) ∧ Touch (CurP g) w w' := by
  have HL := Lib.hid (left_any h hs)
  have hle := h.le
  obtain ⟨L, hL⟩ : ∃ L, L = s.data.toList.drop at_ := ⟨_, rfl⟩
  rw [← hL] at hV
  have hsk := skipN_le L
  have hLl : L.length = s.size - at_ := by rw [hL, List.length_drop]; simp
  obtain ⟨R, hR⟩ : ∃ R, R = s.extract at_ s.size := ⟨_, rfl⟩
  rw [← hR] at HL
  have hRd : R.data.toList = L := by rw [hR, rest_data, hL]
  have hRs : R.size ≤ 1000000 := by rw [hR]; simp; omega
  have H := Lib.hid h
  have hdd : ∀ n, s.data.toList.drop (at_ + n) = L.drop n := fun n => by rw [hL, List.drop_drop]
  have HDD := Lib.hid hdd
  have HL0 := Lib.hid hL
  have HRD := Lib.hid hRd
  have HV := Lib.hid hV
  clear h hL hR hRd hdd hV
  go_enter Tryz.func81, Tryz.ntmps81
  go_wp2_with fail
  refine HL.out.mono ?_
  rintro e1 w1 ⟨rfl, hb1⟩
  have HB1 := Lib.hid (below_drews hb1)
  clear hb1
  go_wp2_with fail
  refine (newc_any R w1).mono ?_
  rintro e2 w2 ⟨rfl, hw2⟩
  have HA2 : Hid (CurAt w2 w1.heap.size R 0) := ⟨by rw [hw2]; exact Blk.new _ _ _, Nat.zero_le _⟩
  have HB2 : Hid (Below w1.heap.size w1 w2) := by show Below _ _ _; rw [hw2]; exact (Below.refl _ _).alloc (Nat.le_refl _) _
  clear hw2
  go_wp2_with fail
  refine (skip_any HA2.out hRs).mono ?_
  rintro e3 w3 ⟨rfl, hc3, ht3⟩
  rw [List.drop_zero, HRD.out, Nat.zero_add] at hc3
  have HA3 := Lib.hid hc3
  have HB3 : Hid (Below w.heap.size w w3) := HB1.out.trans ((HB2.out.mono HB1.out.size).trans (ht3.below (fun k _ hk => by rw [show k = w1.heap.size from hk]; exact HB1.out.size) (Nat.le_trans HB1.out.size HB2.out.size)))
  clear hc3 ht3
  go_wp2_with fail
  refine (byte_any HA3.out hRs 61).mono ?_
  rintro e4 w4 ⟨rfl, hc4, ht4⟩
  rw [HRD.out]
  have HB4 : Hid (Below w.heap.size w w4) := HB3.out.trans (ht4.below (fun k _ hk => by rw [show k = w1.heap.size from hk]; exact HB1.out.size) HB3.out.size)
  clear hc4 ht4
  cases hb : isB 61 (L.drop (skipN L)) with
  | false =>
    have HVE : Hid (V = some 0) := by
      show _ = _
      rw [HV.out]
      unfold valF
      cases hd : L.drop (skipN L) with
      | nil => rfl
      | cons b r =>
        simp only
        rw [if_neg]
        rintro rfl
        rw [hd] at hb
        have h2 := (isB_iff (n := 61) (c := 61) rfl).2 ⟨r, rfl⟩
        rw [hb] at h2
        cases h2
    clear hb
    go_wp2_with fail
    go_ret2
    rw [HVE.out]
    exact ⟨_, at_, rfl, H.out.call HB4.out, (fun n e => by cases e; rfl), Touch.of_below HB4.out⟩
  | true =>
    obtain ⟨r, hr⟩ := (isB_iff (c := 61) rfl).1 hb
    have hrl := drop_cons_le hr
    have hr2 : L.drop (skipN L + 1) = r := by rw [← List.drop_drop, hr]; rfl
    have HVE : Hid (V = if 0 < tokN (r.drop (skipN r)) then some (skipN L + 1 + skipN r + tokN (r.drop (skipN r))) else (quL (r.drop (skipN r))).map (fun p => skipN L + 1 + skipN r + p.1)) := by
      show _ = _
      rw [HV.out]
      unfold valF
      rw [hr]
      rfl
    have H4 := Lib.hid (H.out.call HB4.out)
    have hskr := skipN_le r
    have e2 : s.data.toList.drop (at_ + skipN L) = 61 :: r := by rw [HDD.out, hr]
    have e3 : s.data.toList.drop (at_ + skipN L + 1) = r := by rw [Nat.add_assoc, HDD.out, hr2]
    have e4 : s.data.toList.drop (at_ + skipN L + 1 + skipN r) = r.drop (skipN r) := by rw [← List.drop_drop, e3]
    have E2 := Lib.hid e2
    have E3 := Lib.hid e3
    have E4 := Lib.hid e4
    clear hb hr hr2 e2 e3 e4
    go_wp2_with fail
    refine (skip_any H4.out hs).mono ?_
    rintro e5 w5 ⟨rfl, hc5, ht5⟩
    rw [← HL0.out] at hc5
    have H5 := Lib.hid hc5
    have T5 := Lib.hid (touch_up (P := CurP g) (Touch.of_below HB4.out) ht5 (fun _ _ h => h))
    clear hc5 ht5
    go_wp2_with fail
    refine (byte_any H5.out hs 61).mono ?_
    rintro e6 w6 ⟨rfl, hc6, ht6⟩
    have hi : isB 61 (s.data.toList.drop (at_ + skipN L)) = true := by rw [E2.out]; exact (isB_iff (c := 61) rfl).2 ⟨_, rfl⟩
    rw [hi, if_pos rfl] at hc6
    have H6 := Lib.hid hc6
    have T6 := Lib.hid (T5.out.trans ht6)
    clear hc6 ht6 hi
    go_wp2_with fail
    refine (skip_any H6.out hs).mono ?_
    rintro e7 w7 ⟨rfl, hc7, ht7⟩
    rw [E3.out] at hc7
    have H7 := Lib.hid hc7
    have T7 := Lib.hid (T6.out.trans ht7)
    clear hc7 ht7
    go_wp2_with fail
    refine (ctoken_any H7.out hs).mono ?_
    rintro e8 w8 ⟨rfl, hc8, ht8⟩
    have hte := tokN_zero (s := s) (a := at_ + skipN L + 1 + skipN r) hc8.le
    rw [E4.out] at hte hc8
    rw [E4.out]
    obtain ⟨X, hX⟩ : ∃ X, X = s.extract (at_ + skipN L + 1 + skipN r) (at_ + skipN L + 1 + skipN r + tokN (r.drop (skipN r))) := ⟨_, rfl⟩
    rw [← hX] at hte ⊢
    have H8 := Lib.hid hc8
    have T8 := Lib.hid (T7.out.trans ht8)
    clear hX hc8 ht8
    by_cases h0 : tokN (r.drop (skipN r)) = 0
    · have he : X.toList.isEmpty = true := by rw [hte]; exact decide_eq_true h0
      have HVE2 : Hid (V = (quL (r.drop (skipN r))).map (fun p => skipN L + 1 + skipN r + p.1)) := by show _ = _; rw [HVE.out, if_neg (by omega)]
      have H9 : Hid (CurAt w8 g s (at_ + skipN L + 1 + skipN r)) := by
        have := H8.out
        rw [h0] at this
        exact this
      clear hte h0
      go_wp2_with fail
      refine (quoted_any H9.out hs (Q := quL (r.drop (skipN r))) (by rw [E4.out])).mono ?_
      rintro e9 w9 ⟨rfl, hc9, ht9⟩
      have H10 := Lib.hid hc9
      have T10 := Lib.hid (T8.out.trans ht9)
      clear hc9 ht9
      have hVs : V.isSome = (quL (r.drop (skipN r))).isSome := by rw [HVE2.out]; cases quL (r.drop (skipN r)) <;> rfl
      have HVS := Lib.hid hVs
      obtain ⟨q, hq⟩ : ∃ q, q = (quL (r.drop (skipN r))).isSome := ⟨_, rfl⟩
      rw [← hq] at HVS ⊢
      clear hVs hq
      go_wp2_with fail
      go_ret2
      rw [HVS.out]
      refine ⟨_, _, rfl, H10.out, fun n e => ?_, T10.out⟩
      rw [HVE2.out] at e
      cases hq : quL (r.drop (skipN r)) with
      | none => rw [hq] at e; cases e
      | some p =>
        rw [hq] at e
        cases e
        show at_ + skipN L + 1 + skipN r + p.1 = at_ + (skipN L + 1 + skipN r + p.1)
        omega
    · have he : X.toList.isEmpty = false := by rw [hte]; exact decide_eq_false h0
      have HVE2 : Hid (V = some (skipN L + 1 + skipN r + tokN (r.drop (skipN r)))) := by show _ = _; rw [HVE.out, if_pos (by omega)]
      clear hte h0
      go_wp2_with fail
      go_ret2
      rw [HVE2.out]
      exact ⟨_, _, rfl, H8.out, (fun n e => by cases e; omega), T8.out⟩
end Go.Proofs.YtbglakhojbhfbaaGreatDoor
