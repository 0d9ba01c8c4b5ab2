/- Texts packed for one claim, 3 of 52: Octet OctetRef Digits. -/
import Derived.Test.YtaojfiegnebbdaaGreatDoorMbkQ2
import Derived.Lib.OthersKept
import Derived.Lib.Strings
set_option maxRecDepth 100000
set_option maxHeartbeats 16000000
set_option linter.unusedSimpArgs false
set_option linter.unusedVariables false
-- Octet
namespace Go.Proofs.YtaojfiegnebbdaaGreatDoor
open Go.RowKit
/-! The plain answers. -/
def marks : List UInt8 := [33, 35, 36, 37, 38, 39, 42, 43, 45, 46, 94, 95, 96, 124, 126]
def markS : ByteArray := ⟨#[33, 35, 36, 37, 38, 39, 42, 43, 45, 46, 94, 95, 96, 124, 126]⟩
def alnum (r : Int) : Bool := decide (97 ≤ r ∧ r ≤ 122) || decide (65 ≤ r ∧ r ≤ 90) || decide (48 ≤ r ∧ r ≤ 57)
def tcharB (r : Int) : Bool := alnum r || marks.any fun m => decide ((m.toNat : Int) = r)
def valueB (r : Int) : Bool := decide (r = 9) || decide (32 ≤ r ∧ r ≠ 127)
def visB (r : Int) : Bool := decide (33 ≤ r ∧ r ≤ 126)
def tokL (l : List UInt8) : Bool := !l.isEmpty && l.all fun b => tcharB b.toNat
def valL (l : List UInt8) : Bool := l.all fun b => valueB b.toNat
def visL (l : List UInt8) : Bool := !l.isEmpty && l.all fun b => visB b.toNat
theorem alnum_true {r : Int} (h : (97 ≤ r ∧ r ≤ 122) ∨ (65 ≤ r ∧ r ≤ 90) ∨ (48 ≤ r ∧ r ≤ 57)) : alnum r = true := by
 unfold alnum
 rw [Bool.or_eq_true, Bool.or_eq_true, decide_eq_true_eq, decide_eq_true_eq, decide_eq_true_eq]
 omega
theorem alnum_false {r : Int} (h : ¬ ((97 ≤ r ∧ r ≤ 122) ∨ (65 ≤ r ∧ r ≤ 90) ∨ (48 ≤ r ∧ r ≤ 57))) : alnum r = false := by
 unfold alnum
 rw [Bool.or_eq_false_iff, Bool.or_eq_false_iff, decide_eq_false_iff_not, decide_eq_false_iff_not, decide_eq_false_iff_not]
 omega
theorem markS_get (k : Nat) (h : k < 15) : ∃ m, marks[k]? = some m ∧ ∀ h' : k < markS.size, markS[k] = m := by
 have hk : k < marks.length := h
 exact ⟨marks[k], List.getElem?_eq_getElem hk, fun h' => rfl⟩
theorem marks_lt : ∀ m ∈ marks, m.toNat < 128 := by decide
theorem tcharB_high {r : Int} (h : 128 ≤ r) : tcharB r = false := by
 unfold tcharB
 rw [Bool.or_eq_false_iff, List.any_eq_false]
 refine ⟨alnum_false (by omega), fun m hm => ?_⟩
 have := marks_lt m hm
 rw [decide_eq_true_eq]
 omega
theorem tcharB_mark {r : Int} {m : UInt8} (hm : m ∈ marks) (h : (m.toNat : Int) = r) : tcharB r = true := by
 unfold tcharB
 rw [Bool.or_eq_true, List.any_eq_true]
 exact .inr ⟨m, hm, by rw [decide_eq_true_eq]; exact h⟩
theorem tcharB_none {r : Int} (ha : alnum r = false) (h : ∀ j : Nat, j < 15 → ∀ m, marks[j]? = some m → (m.toNat : Int) ≠ r) : tcharB r = false := by
 unfold tcharB
 rw [Bool.or_eq_false_iff, List.any_eq_false]
 refine ⟨ha, fun m hm => ?_⟩
 obtain ⟨j, hj⟩ := List.mem_iff_getElem?.1 hm
 rw [decide_eq_true_eq]
 have hjl : j < marks.length := (List.getElem?_eq_some_iff.1 hj).1
 exact h j hjl m hj
theorem tchar_any (r : Int) (h0 : 0 ≤ r) (w : World) : Calls Tryz.prog 138 #[.int .i32 r] w fun e w' => e = .returned (.bool (tcharB r)) ∧ Below w.heap.size w w' := by
 by_cases ha : alnum r = true
 ·have hT : tcharB r = true := by unfold tcharB; rw [ha]; rfl
  have HT := lH hT
  clear hT
  have h3 : (97 ≤ r ∧ r ≤ 122) ∨ (65 ≤ r ∧ r ≤ 90) ∨ (48 ≤ r ∧ r ≤ 57) := by
   by_cases h : (97 ≤ r ∧ r ≤ 122) ∨ (65 ≤ r ∧ r ≤ 90) ∨ (48 ≤ r ∧ r ≤ 57)
   ·exact h
   ·rw [alnum_false h] at ha; cases ha
  clear ha
  rcases h3 with ⟨h1, h2⟩ | ⟨h1, h2⟩ | ⟨h1, h2⟩
  all_goals
   go_enter Tryz.func138, Tryz.ntmps138
   go_wp2_with fail
   go_ret
   rw [HT.out]
   exact ⟨rfl, Below.refl _ _⟩
 ·rw [Bool.not_eq_true] at ha
  have HA := lH ha
  have h4 : r < 48 ∨ (57 < r ∧ r < 65) ∨ (90 < r ∧ r < 97) ∨ 122 < r := by
   rcases (by omega : (r < 48 ∨ (57 < r ∧ r < 65) ∨ (90 < r ∧ r < 97) ∨ 122 < r) ∨ ((97 ≤ r ∧ r ≤ 122) ∨ (65 ≤ r ∧ r ≤ 90) ∨ (48 ≤ r ∧ r ≤ 57))) with h | h
   ·exact h
   ·rw [alnum_true h] at ha; cases ha
  clear ha
  rcases h4 with h1 | ⟨h1, h2⟩ | ⟨h1, h2⟩ | h1
  all_goals
   go_enter Tryz.func138, Tryz.ntmps138
   go_wp2_with fail
   go_loopw [] (fun wr => ∃ pos : Nat, pos ≤ 15 ∧ wr.heap[w.heap.size]? = some (.stringIter markS pos) ∧ Below w.heap.size w wr ∧ ∀ j : Nat, j < pos → ∀ m, marks[j]? = some m → (m.toNat : Int) ≠ r) (fun wr => 15 - wr.iterPos w.heap.size)
   case atStart =>
    refine ⟨0, by omega, ?_, (Below.refl _ _).alloc (nR _) _, fun j hj => by omega⟩
    exact World.iter_heap w markS 0
   case round =>
    obtain ⟨pos, hp, hit, hbw, hall⟩ := hrel
    have HALL := lH hall
    have HIT := lH hit
    have HBW := lH hbw
    have hsz : w.heap.size < wr.heap.size := (Array.getElem?_eq_some_iff.1 hit).1
    clear hall hit hbw
    by_cases hlt : pos < 15
    ·obtain ⟨m, hm, hmg⟩ := markS_get pos hlt
     have hms : pos < markS.size := hlt
     have hnx : ∀ ty, (Instr.next (.pointer (some ⟨w.heap.size, 0, none⟩)) true ty).run Tryz.prog wr = .ok (.tuple #[.bool true, .int .i64 pos, .int .i32 m.toNat]) (wr.iterAt w.heap.size markS (pos + 1)) := fun ty => by
      rw [Lib.run_next_ascii_at wr w.heap.size markS pos ty HIT.out hms (by rw [hmg hms]; exact marks_lt m (List.mem_of_getElem? hm)), hmg hms]
     have hit2 := Lib.iterAt_heap wr w.heap.size markS pos (pos + 1) HIT.out
     have hbw2 := Lib.below_iterAt HBW.out (k := w.heap.size) (nR _) markS (pos + 1)
     have HIT2 := lH hit2
     have HBW2 := lH hbw2
     have HM := lH hm
     obtain ⟨mi, hmi⟩ : ∃ mi : Int, mi = m.toNat := ⟨_, rfl⟩
     rw [← hmi] at hnx
     have HMI := lH hmi
     clear hm hmg hit2 hbw2 hmi
     by_cases he : mi = r
     ·have hT : Hid (tcharB r = true) := tcharB_mark (List.mem_of_getElem? HM.out) (by rw [← HMI.out]; exact he)
      subst he
      go_wp2_with fail
      go_ret
      rw [hT.out]
      exact ⟨rfl, HBW2.out⟩
     ·have he2 : (mi == r) = false := by simpa using he
      have HE := lH he
      clear he
      go_wp2_with fail
      go_roundw
      case rel =>
       refine ⟨pos + 1, by omega, HIT2.out, HBW2.out, fun j hj m' hm' => ?_⟩
       by_cases hjp : j = pos
       ·subst hjp
        rw [HM.out] at hm'
        cases hm'
        rw [← HMI.out]
        exact HE.out
       ·exact HALL.out j (by omega) m' hm'
      case measure =>
       simp only [World.iterPos, HIT2.out, HIT.out]
       omega
    ·obtain rfl : pos = 15 := by omega
     have hnx : ∀ ty, (Instr.next (.pointer (some ⟨w.heap.size, 0, none⟩)) true ty).run Tryz.prog wr = _ := fun ty => Lib.run_next_end_at wr w.heap.size markS 15 ty HIT.out (by decide)
     have hT : Hid (tcharB r = false) := tcharB_none HA.out HALL.out
     go_wp2_with fail
     go_ret
     rw [hT.out]
     exact ⟨rfl, HBW.out⟩
/-! Where a rune ends. -/
theorem decode_cont (s : ByteArray) (pos : Nat) (h : pos < s.size) (ha : 128 ≤ (s[pos]'h).toNat) : ∀ k, k < (Utf8.decode s pos).2 → pos + k < s.size ∧ 128 ≤ (s.get! (pos + k)).toNat := by
 have h0 : s.get! pos = s[pos] := by simp [ByteArray.get!, getElem!_pos, h]; rfl
 have hb : 128 ≤ (s.get! (pos + 0)).toNat := by rw [Nat.add_zero, h0]; exact ha
 intro k hk
 by_cases hk0 : k = 0
 ·subst hk0; exact ⟨h, hb⟩
 have hn : ¬ (s.get! (pos + 0)).toNat < 128 := by omega
 simp only [Utf8.decode, hn, if_false] at hk
 repeat' split at hk
 all_goals simp only [Bool.and_eq_true, decide_eq_true_eq, beq_iff_eq] at *
 all_goals
  rcases (show k = 1 ∨ k = 2 ∨ k = 3 by omega) with rfl | rfl | rfl <;> first | (exfalso; omega) | (refine ⟨?_, ?_⟩ <;> omega)
theorem take_all_to {s : ByteArray} {q : UInt8 → Bool} {pos n : Nat} (h : (s.data.toList.take pos).all q = true) (hn : pos + n ≤ s.size) (hq : ∀ k, k < n → q (s.get! (pos + k)) = true) : (s.data.toList.take (pos + n)).all q = true := by
 induction n with
 | zero => exact h
 | succ n ih =>
   have h1 := ih (by omega) (fun k hk => hq k (by omega))
   have hl : pos + n < s.data.toList.length := by
    have := Lib.size_eq s
    omega
   rw [← Nat.add_assoc, List.take_succ_eq_append_getElem hl, List.all_append, h1, Bool.true_and]
   have hg : s.data.toList[pos + n] = s.get! (pos + n) := by
    have hs : pos + n < s.size := by omega
    rw [show s.get! (pos + n) = s[pos + n] from by simp [ByteArray.get!, getElem!_pos, hs]; rfl]
    rfl
   simp only [List.all_cons, List.all_nil, Bool.and_true, hg]
   exact hq n (by omega)
theorem all_not_at {s : ByteArray} {q : UInt8 → Bool} {pos : Nat} (h : pos < s.size) (hq : q s[pos] = false) : s.data.toList.all q = false := by
 rw [List.all_eq_false]
 refine ⟨s[pos], ?_, by rw [hq]; exact Bool.false_ne_true⟩
 have hl : pos < s.data.toList.length := by
  have := Lib.size_eq s
  omega
 have : s.data.toList[pos] = s[pos] := rfl
 rw [← this]
 exact List.getElem_mem hl
theorem all_done {s : ByteArray} {q : UInt8 → Bool} {pos : Nat} (h : (s.data.toList.take pos).all q = true) (hp : ¬ pos < s.size) : s.data.toList.all q = true := by
 rwa [List.take_of_length_le (by rw [← Lib.size_eq]; omega)] at h
theorem get_bang {s : ByteArray} {pos : Nat} (h : pos < s.size) : s.get! pos = s[pos] := by simp [ByteArray.get!, getElem!_pos, h]; rfl
theorem all_tok (s : ByteArray) (hs : s.size ≤ 9223372036854775807) (w : World) : Calls Tryz.prog 137 #[.string s, .func (.func 138) #[] #[]] w fun e w' => e = .returned (.bool (s.data.toList.all fun b => tcharB b.toNat)) ∧ Below w.heap.size w w' := by
 go_enter Tryz.func137, Tryz.ntmps137
 go_wp2_with fail
 go_loopw [] (fun wr => ∃ pos : Nat, pos ≤ s.size ∧ wr.heap[w.heap.size]? = some (.stringIter s pos) ∧ Below w.heap.size w wr ∧ (s.data.toList.take pos).all (fun b => tcharB b.toNat) = true) (fun wr => s.size - wr.iterPos w.heap.size)
 case atStart => exact ⟨0, by omega, World.iter_heap w s 0, (Below.refl _ _).alloc (nR _) _, rfl⟩
 case round =>
  obtain ⟨pos, hp, hit, hbw, hall⟩ := hrel
  have HALL := lH hall
  have HIT := lH hit
  have HBW := lH hbw
  have hsz : w.heap.size < wr.heap.size := (Array.getElem?_eq_some_iff.1 hit).1
  clear hall hit hbw
  by_cases hlt : pos < s.size
  ·obtain ⟨r, hr⟩ : ∃ r : Int, r = ((Utf8.decode s pos).1 : Int) := ⟨_, rfl⟩
   obtain ⟨wd, hwd⟩ : ∃ wd, wd = (Utf8.decode s pos).2 := ⟨_, rfl⟩
   have hnx : ∀ ty, (Instr.next (.pointer (some ⟨w.heap.size, 0, none⟩)) true ty).run Tryz.prog wr = .ok (.tuple #[.bool true, .int .i64 pos, .int .i32 r]) (wr.iterAt w.heap.size s (pos + wd)) := fun ty => by
    rw [Lib.run_next_any_at wr w.heap.size s pos ty HIT.out hlt, hr, hwd]
   have hr0 : 0 ≤ r := by omega
   have hwd1 : 1 ≤ wd := by
    rw [hwd]
    by_cases ha : (s[pos]'hlt).toNat < 128
    ·rw [decode_ascii s pos hlt ha]; exact nR _
    ·exact (decode_high s pos hlt (by omega)).2
   have hq : tcharB r = tcharB (s[pos]'hlt).toNat ∧ (tcharB r = true → pos + wd ≤ s.size ∧ ∀ k, k < wd → tcharB (s.get! (pos + k)).toNat = true) := by
    by_cases ha : (s[pos]'hlt).toNat < 128
    ·rw [decode_ascii s pos hlt ha] at hr hwd
     subst hr hwd
     refine ⟨rfl, fun h => ⟨by omega, fun k hk => ?_⟩⟩
     obtain rfl : k = 0 := by omega
     rw [Nat.add_zero, get_bang hlt]; exact h
    ·have h1 := (decode_high s pos hlt (by omega)).1
     rw [tcharB_high (r := r) (by omega), tcharB_high (r := (s[pos]'hlt).toNat) (by omega)]
     refine ⟨rfl, fun h => ?_⟩
     cases h
   have HQ := lH hq
   have hit2 := Lib.iterAt_heap wr w.heap.size s pos (pos + wd) HIT.out
   have hbw2 := Lib.below_iterAt HBW.out (k := w.heap.size) (nR _) s (pos + wd)
   have HIT2 := lH hit2
   have HBW2 := lH hbw2
   clear hr hwd hq hit2 hbw2
   go_wp2_with fail
   refine (tchar_any _ (by omega) _).mono ?_
   rintro e w1 ⟨rfl, hb1⟩
   have hbw3 := HBW2.out.trans (hb1.mono (by rw [Lib.iterAt_size]; omega))
   have hit3 : w1.heap[w.heap.size]? = some (.stringIter s (pos + wd)) := (hb1.block w.heap.size (by rw [Lib.iterAt_size]; omega)).trans HIT2.out
   have HIT3 := lH hit3
   have HBW3 := lH hbw3
   clear hit3 hbw3 hb1
   obtain ⟨v, hv⟩ : ∃ v, v = tcharB r := ⟨_, rfl⟩
   rw [← hv]
   have HV := lH hv
   clear hv
   cases v
   ·go_wp2_with fail
    go_ret
    rw [all_not_at hlt (q := fun b => tcharB b.toNat) (by rw [HV.out]; exact HQ.out.1.symm)]
    exact ⟨rfl, HBW3.out⟩
   ·go_wp2_with fail
    go_roundw
    case rel =>
     have h2 := HQ.out.2 HV.out.symm
     exact ⟨pos + wd, h2.1, HIT3.out, HBW3.out, take_all_to HALL.out h2.1 h2.2⟩
    case measure =>
     simp only [World.iterPos, HIT3.out, HIT.out]
     omega
  ·have hnx : ∀ ty, (Instr.next (.pointer (some ⟨w.heap.size, 0, none⟩)) true ty).run Tryz.prog wr = _ := fun ty => Lib.run_next_end_at wr w.heap.size s pos ty HIT.out hlt
   have hT : Hid ((s.data.toList.all fun b => tcharB b.toNat) = true) := all_done HALL.out hlt
   go_wp2_with fail
   go_ret
   rw [hT.out]
   exact ⟨rfl, HBW.out⟩
theorem value1_any (r : Int) (w : World) : Calls Tryz.prog 139 #[.int .i32 r] w fun e w' => e = .returned (.bool (valueB r)) ∧ Below w.heap.size w w' := by
 have hv : ∀ b, b = valueB r → Hid (b = valueB r) := fun _ h => h
 rcases (by omega : r = 9 ∨ (r ≠ 9 ∧ r < 32) ∨ (32 ≤ r ∧ r = 127) ∨ (32 ≤ r ∧ r ≠ 127)) with h | ⟨h1, h2⟩ | ⟨h1, h2⟩ | ⟨h1, h2⟩
 ·have HV := hv true (by unfold valueB; rw [h]; rfl)
  subst h
  go_enter Tryz.func139, Tryz.ntmps139
  go_wp2_with fail
  go_ret
  rw [← HV.out]
  exact ⟨rfl, Below.refl _ _⟩
 ·have HV := hv false (by unfold valueB; symm; rw [Bool.or_eq_false_iff, decide_eq_false_iff_not, decide_eq_false_iff_not]; omega)
  have e1 : (r == 9) = false := by simpa using h1
  clear h1 hv
  go_enter Tryz.func139, Tryz.ntmps139
  go_wp2_with fail
  go_ret
  rw [← HV.out]
  exact ⟨rfl, Below.refl _ _⟩
 ·have HV := hv false (by unfold valueB; symm; rw [Bool.or_eq_false_iff, decide_eq_false_iff_not, decide_eq_false_iff_not]; omega)
  subst h2
  go_enter Tryz.func139, Tryz.ntmps139
  go_wp2_with fail
  go_ret
  rw [← HV.out]
  exact ⟨rfl, Below.refl _ _⟩
 ·have HV := hv true (by unfold valueB; symm; rw [Bool.or_eq_true, decide_eq_true_eq, decide_eq_true_eq]; exact .inr ⟨h1, h2⟩)
  by_cases h9 : r = 9
  ·omega
  have e1 : (r == 9) = false := by simpa using h9
  have e2 : (r != 127) = true := by simpa using h2
  clear h9 hv h2
  go_enter Tryz.func139, Tryz.ntmps139
  go_wp2_with fail
  go_ret
  rw [← HV.out]
  exact ⟨rfl, Below.refl _ _⟩
theorem valueB_high {r : Int} (h : 128 ≤ r) : valueB r = true := by unfold valueB; rw [Bool.or_eq_true, decide_eq_true_eq, decide_eq_true_eq]; omega
theorem all_val (s : ByteArray) (hs : s.size ≤ 9223372036854775807) (w : World) : Calls Tryz.prog 137 #[.string s, .func (.func 139) #[] #[]] w fun e w' => e = .returned (.bool (s.data.toList.all fun b => valueB b.toNat)) ∧ Below w.heap.size w w' := by
 go_enter Tryz.func137, Tryz.ntmps137
 go_wp2_with fail
 go_loopw [] (fun wr => ∃ pos : Nat, pos ≤ s.size ∧ wr.heap[w.heap.size]? = some (.stringIter s pos) ∧ Below w.heap.size w wr ∧ (s.data.toList.take pos).all (fun b => valueB b.toNat) = true) (fun wr => s.size - wr.iterPos w.heap.size)
 case atStart => exact ⟨0, by omega, World.iter_heap w s 0, (Below.refl _ _).alloc (nR _) _, rfl⟩
 case round =>
  obtain ⟨pos, hp, hit, hbw, hall⟩ := hrel
  have HALL := lH hall
  have HIT := lH hit
  have HBW := lH hbw
  have hsz : w.heap.size < wr.heap.size := (Array.getElem?_eq_some_iff.1 hit).1
  clear hall hit hbw
  by_cases hlt : pos < s.size
  ·obtain ⟨r, hr⟩ : ∃ r : Int, r = ((Utf8.decode s pos).1 : Int) := ⟨_, rfl⟩
   obtain ⟨wd, hwd⟩ : ∃ wd, wd = (Utf8.decode s pos).2 := ⟨_, rfl⟩
   have hnx : ∀ ty, (Instr.next (.pointer (some ⟨w.heap.size, 0, none⟩)) true ty).run Tryz.prog wr = .ok (.tuple #[.bool true, .int .i64 pos, .int .i32 r]) (wr.iterAt w.heap.size s (pos + wd)) := fun ty => by
    rw [Lib.run_next_any_at wr w.heap.size s pos ty HIT.out hlt, hr, hwd]
   have hr0 : 0 ≤ r := by omega
   have hwd1 : 1 ≤ wd := by
    rw [hwd]
    by_cases ha : (s[pos]'hlt).toNat < 128
    ·rw [decode_ascii s pos hlt ha]; exact nR _
    ·exact (decode_high s pos hlt (by omega)).2
   have hq : valueB r = valueB (s[pos]'hlt).toNat ∧ (valueB r = true → pos + wd ≤ s.size ∧ ∀ k, k < wd → valueB (s.get! (pos + k)).toNat = true) := by
    by_cases ha : (s[pos]'hlt).toNat < 128
    ·rw [decode_ascii s pos hlt ha] at hr hwd
     subst hr hwd
     refine ⟨rfl, fun h => ⟨by omega, fun k hk => ?_⟩⟩
     obtain rfl : k = 0 := by omega
     rw [Nat.add_zero, get_bang hlt]; exact h
    ·have h1 := (decode_high s pos hlt (by omega)).1
     rw [valueB_high (r := r) (by omega), valueB_high (r := (s[pos]'hlt).toNat) (by omega)]
     refine ⟨rfl, fun h => ?_⟩
     have hc := decode_cont s pos hlt (by omega)
     rw [← hwd] at hc
     refine ⟨?_, fun k hk => valueB_high (by have := (hc k hk).2; omega)⟩
     have := (hc (wd - 1) (by omega)).1
     omega
   have HQ := lH hq
   have hit2 := Lib.iterAt_heap wr w.heap.size s pos (pos + wd) HIT.out
   have hbw2 := Lib.below_iterAt HBW.out (k := w.heap.size) (nR _) s (pos + wd)
   have HIT2 := lH hit2
   have HBW2 := lH hbw2
   clear hr hwd hq hit2 hbw2
   go_wp2_with fail
   refine (value1_any _ _).mono ?_
   rintro e w1 ⟨rfl, hb1⟩
   have hbw3 := HBW2.out.trans (hb1.mono (by rw [Lib.iterAt_size]; omega))
   have hit3 : w1.heap[w.heap.size]? = some (.stringIter s (pos + wd)) := (hb1.block w.heap.size (by rw [Lib.iterAt_size]; omega)).trans HIT2.out
   have HIT3 := lH hit3
   have HBW3 := lH hbw3
   clear hit3 hbw3 hb1
   obtain ⟨v, hv⟩ : ∃ v, v = valueB r := ⟨_, rfl⟩
   rw [← hv]
   have HV := lH hv
   clear hv
   cases v
   ·go_wp2_with fail
    go_ret
    rw [all_not_at hlt (q := fun b => valueB b.toNat) (by rw [HV.out]; exact HQ.out.1.symm)]
    exact ⟨rfl, HBW3.out⟩
   ·go_wp2_with fail
    go_roundw
    case rel =>
     have h2 := HQ.out.2 HV.out.symm
     exact ⟨pos + wd, h2.1, HIT3.out, HBW3.out, take_all_to HALL.out h2.1 h2.2⟩
    case measure =>
     simp only [World.iterPos, HIT3.out, HIT.out]
     omega
  ·have hnx : ∀ ty, (Instr.next (.pointer (some ⟨w.heap.size, 0, none⟩)) true ty).run Tryz.prog wr = _ := fun ty => Lib.run_next_end_at wr w.heap.size s pos ty HIT.out hlt
   have hT : Hid ((s.data.toList.all fun b => valueB b.toNat) = true) := all_done HALL.out hlt
   go_wp2_with fail
   go_ret
   rw [hT.out]
   exact ⟨rfl, HBW.out⟩
theorem visible1_any (r : Int) (w : World) : Calls Tryz.prog 141 #[.int .i32 r] w fun e w' => e = .returned (.bool (visB r)) ∧ Below w.heap.size w w' := by
 have hv : ∀ b, b = visB r → Hid (b = visB r) := fun _ h => h
 rcases (by omega : r ≤ 32 ∨ (32 < r ∧ r < 127) ∨ 127 ≤ r) with h1 | ⟨h1, h2⟩ | h1
 ·have HV := hv false (by unfold visB; symm; rw [decide_eq_false_iff_not]; omega)
  go_enter Tryz.func141, Tryz.ntmps141
  go_wp2_with fail
  go_ret
  rw [← HV.out]
  exact ⟨rfl, Below.refl _ _⟩
 ·have HV := hv true (by unfold visB; symm; rw [decide_eq_true_eq]; omega)
  go_enter Tryz.func141, Tryz.ntmps141
  go_wp2_with fail
  go_ret
  rw [← HV.out]
  exact ⟨rfl, Below.refl _ _⟩
 ·have HV := hv false (by unfold visB; symm; rw [decide_eq_false_iff_not]; omega)
  have hd : decide (r < 127) = false := by rw [decide_eq_false_iff_not]; omega
  go_enter Tryz.func141, Tryz.ntmps141
  go_wp2_with fail
  go_ret
  rw [← HV.out]
  exact ⟨rfl, Below.refl _ _⟩
theorem visB_high {r : Int} (h : 128 ≤ r) : visB r = false := by unfold visB; rw [decide_eq_false_iff_not]; omega
theorem all_vis (s : ByteArray) (hs : s.size ≤ 9223372036854775807) (w : World) : Calls Tryz.prog 137 #[.string s, .func (.func 141) #[] #[]] w fun e w' => e = .returned (.bool (s.data.toList.all fun b => visB b.toNat)) ∧ Below w.heap.size w w' := by
 go_enter Tryz.func137, Tryz.ntmps137
 go_wp2_with fail
 go_loopw [] (fun wr => ∃ pos : Nat, pos ≤ s.size ∧ wr.heap[w.heap.size]? = some (.stringIter s pos) ∧ Below w.heap.size w wr ∧ (s.data.toList.take pos).all (fun b => visB b.toNat) = true) (fun wr => s.size - wr.iterPos w.heap.size)
 case atStart => exact ⟨0, by omega, World.iter_heap w s 0, (Below.refl _ _).alloc (nR _) _, rfl⟩
 case round =>
  obtain ⟨pos, hp, hit, hbw, hall⟩ := hrel
  have HALL := lH hall
  have HIT := lH hit
  have HBW := lH hbw
  have hsz : w.heap.size < wr.heap.size := (Array.getElem?_eq_some_iff.1 hit).1
  clear hall hit hbw
  by_cases hlt : pos < s.size
  ·obtain ⟨r, hr⟩ : ∃ r : Int, r = ((Utf8.decode s pos).1 : Int) := ⟨_, rfl⟩
   obtain ⟨wd, hwd⟩ : ∃ wd, wd = (Utf8.decode s pos).2 := ⟨_, rfl⟩
   have hnx : ∀ ty, (Instr.next (.pointer (some ⟨w.heap.size, 0, none⟩)) true ty).run Tryz.prog wr = .ok (.tuple #[.bool true, .int .i64 pos, .int .i32 r]) (wr.iterAt w.heap.size s (pos + wd)) := fun ty => by
    rw [Lib.run_next_any_at wr w.heap.size s pos ty HIT.out hlt, hr, hwd]
   have hr0 : 0 ≤ r := by omega
   have hwd1 : 1 ≤ wd := by
    rw [hwd]
    by_cases ha : (s[pos]'hlt).toNat < 128
    ·rw [decode_ascii s pos hlt ha]; exact nR _
    ·exact (decode_high s pos hlt (by omega)).2
   have hq : visB r = visB (s[pos]'hlt).toNat ∧ (visB r = true → pos + wd ≤ s.size ∧ ∀ k, k < wd → visB (s.get! (pos + k)).toNat = true) := by
    by_cases ha : (s[pos]'hlt).toNat < 128
    ·rw [decode_ascii s pos hlt ha] at hr hwd
     subst hr hwd
     refine ⟨rfl, fun h => ⟨by omega, fun k hk => ?_⟩⟩
     obtain rfl : k = 0 := by omega
     rw [Nat.add_zero, get_bang hlt]; exact h
    ·have h1 := (decode_high s pos hlt (by omega)).1
     rw [visB_high (r := r) (by omega), visB_high (r := (s[pos]'hlt).toNat) (by omega)]
     refine ⟨rfl, fun h => ?_⟩
     cases h
   have HQ := lH hq
   have hit2 := Lib.iterAt_heap wr w.heap.size s pos (pos + wd) HIT.out
   have hbw2 := Lib.below_iterAt HBW.out (k := w.heap.size) (nR _) s (pos + wd)
   have HIT2 := lH hit2
   have HBW2 := lH hbw2
   clear hr hwd hq hit2 hbw2
   go_wp2_with fail
   refine (visible1_any _ _).mono ?_
   rintro e w1 ⟨rfl, hb1⟩
   have hbw3 := HBW2.out.trans (hb1.mono (by rw [Lib.iterAt_size]; omega))
   have hit3 : w1.heap[w.heap.size]? = some (.stringIter s (pos + wd)) := (hb1.block w.heap.size (by rw [Lib.iterAt_size]; omega)).trans HIT2.out
   have HIT3 := lH hit3
   have HBW3 := lH hbw3
   clear hit3 hbw3 hb1
   obtain ⟨v, hv⟩ : ∃ v, v = visB r := ⟨_, rfl⟩
   rw [← hv]
   have HV := lH hv
   clear hv
   cases v
   ·go_wp2_with fail
    go_ret
    rw [all_not_at hlt (q := fun b => visB b.toNat) (by rw [HV.out]; exact HQ.out.1.symm)]
    exact ⟨rfl, HBW3.out⟩
   ·go_wp2_with fail
    go_roundw
    case rel =>
     have h2 := HQ.out.2 HV.out.symm
     exact ⟨pos + wd, h2.1, HIT3.out, HBW3.out, take_all_to HALL.out h2.1 h2.2⟩
    case measure =>
     simp only [World.iterPos, HIT3.out, HIT.out]
     omega
  ·have hnx : ∀ ty, (Instr.next (.pointer (some ⟨w.heap.size, 0, none⟩)) true ty).run Tryz.prog wr = _ := fun ty => Lib.run_next_end_at wr w.heap.size s pos ty HIT.out hlt
   have hT : Hid ((s.data.toList.all fun b => visB b.toNat) = true) := all_done HALL.out hlt
   go_wp2_with fail
   go_ret
   rw [hT.out]
   exact ⟨rfl, HBW.out⟩
theorem isEmpty_list (s : ByteArray) : s.toList.isEmpty = s.data.toList.isEmpty := by rw [ByteArray.toList_eq]
theorem token_any (s : ByteArray) (hs : s.size ≤ 9223372036854775807) (w : World) : Calls Tryz.prog 106 #[.string s] w fun e w' => e = .returned (.bool (tokL s.data.toList)) ∧ Below w.heap.size w w' := by
 have hv : ∀ b, b = tokL s.data.toList → Hid (b = tokL s.data.toList) := fun _ h => h
 cases h : s.data.toList.isEmpty
 ·have HV := hv (s.data.toList.all fun b => tcharB b.toNat) (by unfold tokL; rw [h]; rfl)
  have h2 : s.toList.isEmpty = false := by rw [isEmpty_list]; exact h
  clear h hv
  go_enter Tryz.func106, Tryz.ntmps106
  go_wp2_with fail
  refine (all_tok s hs _).mono ?_
  rintro e w1 ⟨rfl, hb1⟩
  rw [HV.out]
  go_wp2_with fail
  go_ret
  exact ⟨rfl, hb1⟩
 ·have HV := hv false (by unfold tokL; rw [h]; rfl)
  have h2 : s.toList.isEmpty = true := by rw [isEmpty_list]; exact h
  clear h hv
  go_enter Tryz.func106, Tryz.ntmps106
  go_wp2_with fail
  go_ret
  rw [← HV.out]
  exact ⟨rfl, Below.refl _ _⟩
theorem visible_any (s : ByteArray) (hs : s.size ≤ 9223372036854775807) (w : World) : Calls Tryz.prog 109 #[.string s] w fun e w' => e = .returned (.bool (visL s.data.toList)) ∧ Below w.heap.size w w' := by
 have hv : ∀ b, b = visL s.data.toList → Hid (b = visL s.data.toList) := fun _ h => h
 cases h : s.data.toList.isEmpty
 ·have HV := hv (s.data.toList.all fun b => visB b.toNat) (by unfold visL; rw [h]; rfl)
  have h2 : s.toList.isEmpty = false := by rw [isEmpty_list]; exact h
  clear h hv
  go_enter Tryz.func109, Tryz.ntmps109
  go_wp2_with fail
  refine (all_vis s hs _).mono ?_
  rintro e w1 ⟨rfl, hb1⟩
  rw [HV.out]
  go_wp2_with fail
  go_ret
  exact ⟨rfl, hb1⟩
 ·have HV := hv false (by unfold visL; rw [h]; rfl)
  have h2 : s.toList.isEmpty = true := by rw [isEmpty_list]; exact h
  clear h hv
  go_enter Tryz.func109, Tryz.ntmps109
  go_wp2_with fail
  go_ret
  rw [← HV.out]
  exact ⟨rfl, Below.refl _ _⟩
theorem value_any (s : ByteArray) (hs : s.size ≤ 9223372036854775807) (w : World) : Calls Tryz.prog 107 #[.string s] w fun e w' => e = .returned (.bool (valL s.data.toList)) ∧ Below w.heap.size w w' := by
 obtain ⟨b, hb⟩ : ∃ b, b = valL s.data.toList := ⟨_, rfl⟩
 have HB := lH hb
 clear hb
 go_enter Tryz.func107, Tryz.ntmps107
 go_wp2_with fail
 refine (all_val s hs _).mono ?_
 rintro e w1 ⟨rfl, hb1⟩
 rw [show (s.data.toList.all fun b => valueB b.toNat) = b from HB.out.symm]
 go_wp2_with fail
 go_ret
 rw [← HB.out]
 exact ⟨rfl, hb1⟩
end Go.Proofs.YtaojfiegnebbdaaGreatDoor
-- OctetRef
namespace Go.Proofs.YtaojfiegnebbdaaGreatDoor
open Go.RowKit
end Go.Proofs.YtaojfiegnebbdaaGreatDoor
-- Digits
namespace Go.Proofs.YtaojfiegnebbdaaGreatDoor
open Go.RowKit
def digV (r : Int) : Int := if 48 ≤ r ∧ r ≤ 57 then r - 48 else if 97 ≤ r ∧ r ≤ 102 then r - 87 else if 65 ≤ r ∧ r ≤ 70 then r - 55 else -1
theorem digV_range (r : Int) : -1 ≤ digV r ∧ digV r ≤ 15 := by
 unfold digV
 repeat' split
 all_goals omega
theorem digV_high {r : Int} (h : 128 ≤ r) : digV r = -1 := by
 unfold digV
 rw [if_neg (by omega), if_neg (by omega), if_neg (by omega)]
def numV (base : Int) (l : List UInt8) : Int := l.foldl (fun n b => n * base + digV b.toNat) 0
def digB (base : Int) (b : UInt8) : Bool := decide (0 ≤ digV b.toNat ∧ digV b.toNat < base)
def numRes (l : List UInt8) (base most : Int) : Int × Int :=
 if l.isEmpty then (0, 2) else if !(l.all (digB base)) then (0, 3) else if numV base l ≤ most then (numV base l, 0) else (0, 5)
theorem numV_snoc (base : Int) (l : List UInt8) (b : UInt8) : numV base (l ++ [b]) = numV base l * base + digV b.toNat := by
 unfold numV
 rw [List.foldl_append]
 rfl
theorem digit_any (r : Int) (h0 : 0 ≤ r) (h1 : r ≤ 1114111) (w : World) : Calls Tryz.prog 184 #[.int .i32 r] w fun e w' => e = .returned (.int .i64 (digV r)) ∧ w = w' := by
 rcases (by omega : r < 48 ∨ (48 ≤ r ∧ r ≤ 57) ∨ (57 < r ∧ r < 65) ∨ (65 ≤ r ∧ r ≤ 70) ∨ (70 < r ∧ r < 97) ∨ (97 ≤ r ∧ r ≤ 102) ∨ 102 < r) with h | ⟨h, h'⟩ | ⟨h, h'⟩ | ⟨h, h'⟩ | ⟨h, h'⟩ | ⟨h, h'⟩ | h
 ·have HV : Hid (digV r = -1) := by show digV r = -1; unfold digV; repeat' split; all_goals omega
  go_enter Tryz.func184, Tryz.ntmps184
  go_wp2_with fail
  go_ret
  rw [HV.out]
  exact ⟨rfl, rfl⟩
 ·have HV : Hid (digV r = r - 48) := by show digV r = r - 48; unfold digV; repeat' split; all_goals omega
  go_enter Tryz.func184, Tryz.ntmps184
  go_wp2_with fail
  go_ret
  rw [HV.out]
  exact ⟨rfl, rfl⟩
 ·have HV : Hid (digV r = -1) := by show digV r = -1; unfold digV; repeat' split; all_goals omega
  go_enter Tryz.func184, Tryz.ntmps184
  go_wp2_with fail
  go_ret
  rw [HV.out]
  exact ⟨rfl, rfl⟩
 ·have HV : Hid (digV r = r - 65 + 10) := by show digV r = r - 65 + 10; unfold digV; repeat' split; all_goals omega
  go_enter Tryz.func184, Tryz.ntmps184
  go_wp2_with fail
  go_ret
  rw [HV.out]
  exact ⟨rfl, rfl⟩
 ·have HV : Hid (digV r = -1) := by show digV r = -1; unfold digV; repeat' split; all_goals omega
  go_enter Tryz.func184, Tryz.ntmps184
  go_wp2_with fail
  go_ret
  rw [HV.out]
  exact ⟨rfl, rfl⟩
 ·have HV : Hid (digV r = r - 97 + 10) := by show digV r = r - 97 + 10; unfold digV; repeat' split; all_goals omega
  go_enter Tryz.func184, Tryz.ntmps184
  go_wp2_with fail
  go_ret
  rw [HV.out]
  exact ⟨rfl, rfl⟩
 ·have HV : Hid (digV r = -1) := by show digV r = -1; unfold digV; repeat' split; all_goals omega
  go_enter Tryz.func184, Tryz.ntmps184
  go_wp2_with fail
  go_ret
  rw [HV.out]
  exact ⟨rfl, rfl⟩
theorem take_snoc (s : ByteArray) (k : Nat) (h : k < s.size) : s.data.toList.take (k + 1) = s.data.toList.take k ++ [s[k]] := by
 rw [List.take_succ_eq_append_getElem (by simpa using h)]; rfl
theorem rune_facts (s : ByteArray) (k : Nat) (h : k < s.size) : ∃ (r : Int) (wd : Nat), r = ((Utf8.decode s k).1 : Int) ∧ wd = (Utf8.decode s k).2 ∧ 0 ≤ r ∧ r ≤ 1114111 ∧ 1 ≤ wd ∧ (digV r = digV (s[k]'h).toNat) ∧ (0 ≤ digV r → wd = 1) := by
 have hm : (Utf8.decode s k).1 ≤ 1114111 := by
  have hb : ∀ j, (s.get! (k + j)).toNat < 256 := fun j => (s.get! (k + j)).toNat_lt
  have h0 := hb 0; have h1 := hb 1; have h2 := hb 2; have h3 := hb 3
  simp only [Utf8.decode]
  repeat' split
  all_goals simp_all [Utf8.runeError, Utf8.valid]
  all_goals omega
 refine ⟨_, _, rfl, rfl, by omega, by omega, ?_⟩
 by_cases ha : (s[k]'h).toNat < 128
 ·rw [decode_ascii s k h ha]
  exact ⟨nR _, rfl, fun _ => rfl⟩
 ·have hh := decode_high s k h (by omega)
  refine ⟨hh.2, ?_, fun h' => ?_⟩
  ·rw [digV_high (by omega), digV_high (by omega)]
  ·rw [digV_high (by omega)] at h'; omega
theorem numF_nn {base : Int} (hb : 0 ≤ base) : ∀ (l : List UInt8) (n0 : Int), 0 ≤ n0 → l.all (digB base) = true → 0 ≤ l.foldl (fun n b => n * base + digV b.toNat) n0
 | [], n0, h, _ => h
 | b :: l, n0, h, ha => by
   rw [List.all_cons, Bool.and_eq_true] at ha
   have h2 := ha.1
   simp only [digB, decide_eq_true_eq] at h2
   have h3 := Int.mul_nonneg h hb
   exact numF_nn hb l (n0 * base + digV b.toNat) (by omega) ha.2
theorem numV_nn {base : Int} (hb : 0 ≤ base) (l : List UInt8) (h : l.all (digB base) = true) : 0 ≤ numV base l := numF_nn hb l 0 (Int.le_refl _) h
def NumI10 (s : ByteArray) (most : Int) (k : Nat) (n : Int) (over : Bool) : Prop :=
 (s.data.toList.take k).all (digB 10) = true ∧ 0 ≤ n ∧ (over = false → n = numV 10 (s.data.toList.take k) ∧ (k = 0 ∨ n ≤ most)) ∧ (over = true → most < numV 10 (s.data.toList.take k))
theorem NumI10.next {s : ByteArray} {most : Int} {k : Nat} {n : Int} {over : Bool} (h : NumI10 s most k n over) (hk : k < s.size) {d : Int} (hd : d = digV (s[k]'hk).toNat) (h0 : 0 ≤ d) (h1 : d < 10) {n' : Int} {over' : Bool}
 (ho : over' = false → over = false ∧ n' = n * 10 + d ∧ n' ≤ most) (ho' : over' = true → over = true ∨ most < d ∨ (most - d) / 10 < n) (hn : 0 ≤ n') : NumI10 s most (k + 1) n' over' := by
 obtain ⟨a, b, c, e⟩ := h
 have hv := numV_nn (base := 10) (by omega) _ a
 unfold NumI10
 rw [take_snoc s k hk, List.all_append, a, numV_snoc, ← hd]
 refine ⟨?_, hn, fun hf => ?_, fun ht => ?_⟩
 ·simp only [List.all_cons, List.all_nil, Bool.and_true, Bool.true_and, digB, decide_eq_true_eq, ← hd]
  exact ⟨h0, h1⟩
 ·obtain ⟨p, q, r⟩ := ho hf
  have := (c p).1
  exact ⟨by rw [q, this], .inr r⟩
 ·cases over
  ·have := (c rfl).1
   rcases ho' ht with h | h | h
   ·cases h
   ·omega
   ·omega
  ·have := e rfl
   omega
theorem number_10 (s : ByteArray) (most : Int) (hs : s.size ≤ 9223372036854775807) (hm : most ≤ 9223372036854775807) (hm0 : -9223372036854775808 ≤ most) (n e : Int) (hr : numRes s.data.toList 10 most = (n, e)) (w : World) :
 Calls Tryz.prog 158 #[.string s, .int .i64 10, .int .i64 most] w fun en w' => en = .returned (.tuple #[.int .i64 n, .int .i64 e]) ∧ Below w.heap.size w w' := by
 have HR := lH hr
 clear hr
 cases hz : s.data.toList.isEmpty
 case true =>
  have h2 : s.toList.isEmpty = true := by rw [isEmpty_list]; exact hz
  have hr : Hid ((0, 2) = (n, e)) := by show (0, 2) = (n, e); rw [← HR.out]; unfold numRes; rw [hz]; rfl
  clear hz
  go_enter Tryz.func158, Tryz.ntmps158
  go_wp2_with fail
  go_ret2
  obtain ⟨rfl, rfl⟩ := Prod.mk.inj hr.out
  exact ⟨rfl, Below.refl _ _⟩
 have h2 : s.toList.isEmpty = false := by rw [isEmpty_list]; exact hz
 have HZ := lH hz
 clear hz
 go_enter Tryz.func158, Tryz.ntmps158
 go_wp2_with fail
 go_loopw [8, 9] (fun nv ov wr => ∃ (k : Nat) (m : Int) (over : Bool), nv = .int .i64 m ∧ ov = .bool over ∧ m ≤ 9223372036854775807 ∧ k ≤ s.size ∧ wr.heap[w.heap.size]? = some (.stringIter s k) ∧ Below w.heap.size w wr ∧ NumI10 s most k m over) (fun _ _ wr => s.size - wr.iterPos w.heap.size)
 case atStart => exact ⟨0, 0, false, rfl, rfl, by omega, by omega, World.iter_heap w s 0, (Below.refl _ _).alloc (nR _) _, rfl, Int.le_refl _, fun _ => ⟨rfl, .inl rfl⟩, fun h => by cases h⟩
 case round =>
  obtain ⟨k, m, over, rfl, rfl, hmm, hp, hit, hbw, hI⟩ := hrel
  have HI := lH hI
  have HIT := lH hit
  have HBW := lH hbw
  have hm0' : 0 ≤ m := hI.2.1
  have hsz : w.heap.size < wr.heap.size := (Array.getElem?_eq_some_iff.1 hit).1
  clear hI hit hbw
  by_cases hlt : k < s.size
  ·obtain ⟨r, wd, hr, hwd, hr0, hr1, hwd1, hq, hq1⟩ := rune_facts s k hlt
   have hnx : ∀ ty, (Instr.next (.pointer (some ⟨w.heap.size, 0, none⟩)) true ty).run Tryz.prog wr = .ok (.tuple #[.bool true, .int .i64 k, .int .i32 r]) (wr.iterAt w.heap.size s (k + wd)) := fun ty => by
    rw [Lib.run_next_any_at wr w.heap.size s k ty HIT.out hlt, hr, hwd]
   have HIT2 := lH (Lib.iterAt_heap wr w.heap.size s k (k + wd) HIT.out)
   have HBW2 := lH (Lib.below_iterAt HBW.out (k := w.heap.size) (nR _) s (k + wd))
   obtain ⟨d, hd⟩ : ∃ d, d = digV r := ⟨_, rfl⟩
   have hdr : -1 ≤ d ∧ d ≤ 15 := by rw [hd]; exact digV_range r
   have hd1 := hdr.1
   have hd2 := hdr.2
   have HD := lH hd
   have HQ := lH hq
   have HQ1 := lH hq1
   clear hr hwd hdr hd hq hq1
   go_wp2_with fail
   refine (digit_any r hr0 hr1 _).mono ?_
   rintro en w1 ⟨rfl, rfl⟩
   rw [← HD.out]
   by_cases hbad : d < 0 ∨ 10 ≤ d
   ·have hR : Hid ((0, 3) = (n, e)) := by
     show (0, 3) = (n, e)
     rw [← HR.out]
     unfold numRes
     rw [HZ.out, all_not_at hlt (q := digB 10) (by unfold digB; rw [← HQ.out, ← HD.out, decide_eq_false_iff_not]; omega)]
     rfl
    rcases hbad with hbad | hbad
    ·go_wp2_with fail
     go_ret2
     obtain ⟨rfl, rfl⟩ := Prod.mk.inj hR.out
     exact ⟨rfl, HBW2.out⟩
    ·have hd0 : 0 ≤ d := by omega
     go_wp2_with fail
     go_ret2
     obtain ⟨rfl, rfl⟩ := Prod.mk.inj hR.out
     exact ⟨rfl, HBW2.out⟩
   ·have hd0 : 0 ≤ d := by omega
    have hdB : d < 10 := by omega
    obtain rfl : wd = 1 := HQ1.out (by rw [← HD.out]; exact hd0)
    clear hbad
    have hdq : Hid (d = digV (s[k]'hlt).toNat) := by show d = _; rw [HD.out, HQ.out]
    cases over
    ·by_cases h3 : most < d
     ·go_wp2_with fail
      go_roundw
      case rel => exact ⟨k + 1, m, true, rfl, rfl, hmm, by omega, HIT2.out, HBW2.out, HI.out.next hlt hdq.out hd0 hdB (fun h => by cases h) (fun _ => .inr (.inl h3)) hm0'⟩
      case measure =>
       simp only [World.iterPos, HIT2.out, HIT.out]
       omega
     ·have h3' : d ≤ most := by omega
      have hq0 : 0 ≤ (most - d) / 10 := by omega
      by_cases h4 : (most - d) / 10 < m
      ·go_wp2_with fail
       go_roundw
       case rel => exact ⟨k + 1, m, true, rfl, rfl, hmm, by omega, HIT2.out, HBW2.out, HI.out.next hlt hdq.out hd0 hdB (fun h => by cases h) (fun _ => .inr (.inr h4)) hm0'⟩
       case measure =>
        simp only [World.iterPos, HIT2.out, HIT.out]
        omega
      ·have h5 : m * 10 + d ≤ most := by omega
       have e1 : decide (most < d) = false := by rw [decide_eq_false_iff_not]; omega
       have e2 : decide ((most - d) / 10 < m) = false := by rw [decide_eq_false_iff_not]; omega
       go_wp2_with fail
       go_roundw
       case rel => exact ⟨k + 1, m * 10 + d, false, rfl, rfl, by omega, by omega, HIT2.out, HBW2.out, HI.out.next hlt hdq.out hd0 hdB (fun _ => ⟨rfl, rfl, h5⟩) (fun h => by cases h) (by omega)⟩
       case measure =>
        simp only [World.iterPos, HIT2.out, HIT.out]
        omega
    ·go_wp2_with fail
     go_roundw
     case rel => exact ⟨k + 1, m, true, rfl, rfl, hmm, by omega, HIT2.out, HBW2.out, HI.out.next hlt hdq.out hd0 hdB (fun h => by cases h) (fun _ => .inl rfl) hm0'⟩
     case measure =>
      simp only [World.iterPos, HIT2.out, HIT.out]
      omega
  ·have hnx : ∀ ty, (Instr.next (.pointer (some ⟨w.heap.size, 0, none⟩)) true ty).run Tryz.prog wr = _ := fun ty => Lib.run_next_end_at wr w.heap.size s k ty HIT.out hlt
   obtain rfl : k = s.size := by omega
   have hT : s.data.toList.take s.size = s.data.toList := List.take_of_length_le (by rw [← Lib.size_eq]; exact nR _)
   have HT := lH hT
   have hz0 : s.size ≠ 0 := fun h0 => by
    have h1 := HZ.out
    rw [Lib.size_eq, List.length_eq_zero_iff] at h0
    rw [h0] at h1
    cases h1
   cases over
   ·have hR : Hid ((m, 0) = (n, e)) := by
     obtain ⟨a, b, c, _⟩ := HI.out
     rw [HT.out] at a c
     obtain ⟨c1, c2⟩ := c rfl
     show (m, 0) = (n, e)
     rw [← HR.out]
     unfold numRes
     rw [HZ.out, a, ← c1]
     rcases c2 with c2 | c2
     ·exact absurd c2 hz0
     ·simp [c2]
    clear hT hz0
    go_wp2_with fail
    go_ret2
    obtain ⟨rfl, rfl⟩ := Prod.mk.inj hR.out
    exact ⟨rfl, HBW.out⟩
   ·have hR : Hid ((0, 5) = (n, e)) := by
     obtain ⟨a, b, _, c⟩ := HI.out
     rw [HT.out] at a c
     have c1 := c rfl
     show (0, 5) = (n, e)
     rw [← HR.out]
     unfold numRes
     rw [HZ.out, a, if_neg (by simp), if_neg (by simp), if_neg (by omega)]
    clear hT hz0
    go_wp2_with fail
    go_ret2
    obtain ⟨rfl, rfl⟩ := Prod.mk.inj hR.out
    exact ⟨rfl, HBW.out⟩
theorem dec_any (s : ByteArray) (most : Int) (hs : s.size ≤ 9223372036854775807) (hm : most ≤ 9223372036854775807) (hm0 : -9223372036854775808 ≤ most) (n e : Int) (hr : numRes s.data.toList 10 most = (n, e)) (w : World) :
 Calls Tryz.prog 125 #[.string s, .int .i64 most] w fun en w' => en = .returned (.tuple #[.int .i64 n, .int .i64 e]) ∧ Below w.heap.size w w' := by
 have HR := lH hr
 clear hr
 go_enter Tryz.func125, Tryz.ntmps125
 go_wp2_with fail
 refine (number_10 s most hs hm hm0 n e HR.out _).mono ?_
 rintro en w1 ⟨rfl, hb⟩
 go_wp2_with fail
 go_ret2
 exact ⟨rfl, hb⟩
def NumI16 (s : ByteArray) (most : Int) (k : Nat) (n : Int) (over : Bool) : Prop :=
 (s.data.toList.take k).all (digB 16) = true ∧ 0 ≤ n ∧ (over = false → n = numV 16 (s.data.toList.take k) ∧ (k = 0 ∨ n ≤ most)) ∧ (over = true → most < numV 16 (s.data.toList.take k))
theorem NumI16.next {s : ByteArray} {most : Int} {k : Nat} {n : Int} {over : Bool} (h : NumI16 s most k n over) (hk : k < s.size) {d : Int} (hd : d = digV (s[k]'hk).toNat) (h0 : 0 ≤ d) (h1 : d < 16) {n' : Int} {over' : Bool}
 (ho : over' = false → over = false ∧ n' = n * 16 + d ∧ n' ≤ most) (ho' : over' = true → over = true ∨ most < d ∨ (most - d) / 16 < n) (hn : 0 ≤ n') : NumI16 s most (k + 1) n' over' := by
 obtain ⟨a, b, c, e⟩ := h
 have hv := numV_nn (base := 16) (by omega) _ a
 unfold NumI16
 rw [take_snoc s k hk, List.all_append, a, numV_snoc, ← hd]
 refine ⟨?_, hn, fun hf => ?_, fun ht => ?_⟩
 ·simp only [List.all_cons, List.all_nil, Bool.and_true, Bool.true_and, digB, decide_eq_true_eq, ← hd]
  exact ⟨h0, h1⟩
 ·obtain ⟨p, q, r⟩ := ho hf
  have := (c p).1
  exact ⟨by rw [q, this], .inr r⟩
 ·cases over
  ·have := (c rfl).1
   rcases ho' ht with h | h | h
   ·cases h
   ·omega
   ·omega
  ·have := e rfl
   omega
theorem number_16 (s : ByteArray) (most : Int) (hs : s.size ≤ 9223372036854775807) (hm : most ≤ 9223372036854775807) (hm0 : -9223372036854775808 ≤ most) (n e : Int) (hr : numRes s.data.toList 16 most = (n, e)) (w : World) :
 Calls Tryz.prog 158 #[.string s, .int .i64 16, .int .i64 most] w fun en w' => en = .returned (.tuple #[.int .i64 n, .int .i64 e]) ∧ Below w.heap.size w w' := by
 have HR := lH hr
 clear hr
 cases hz : s.data.toList.isEmpty
 case true =>
  have h2 : s.toList.isEmpty = true := by rw [isEmpty_list]; exact hz
  have hr : Hid ((0, 2) = (n, e)) := by show (0, 2) = (n, e); rw [← HR.out]; unfold numRes; rw [hz]; rfl
  clear hz
  go_enter Tryz.func158, Tryz.ntmps158
  go_wp2_with fail
  go_ret2
  obtain ⟨rfl, rfl⟩ := Prod.mk.inj hr.out
  exact ⟨rfl, Below.refl _ _⟩
 have h2 : s.toList.isEmpty = false := by rw [isEmpty_list]; exact hz
 have HZ := lH hz
 clear hz
 go_enter Tryz.func158, Tryz.ntmps158
 go_wp2_with fail
 go_loopw [8, 9] (fun nv ov wr => ∃ (k : Nat) (m : Int) (over : Bool), nv = .int .i64 m ∧ ov = .bool over ∧ m ≤ 9223372036854775807 ∧ k ≤ s.size ∧ wr.heap[w.heap.size]? = some (.stringIter s k) ∧ Below w.heap.size w wr ∧ NumI16 s most k m over) (fun _ _ wr => s.size - wr.iterPos w.heap.size)
 case atStart => exact ⟨0, 0, false, rfl, rfl, by omega, by omega, World.iter_heap w s 0, (Below.refl _ _).alloc (nR _) _, rfl, Int.le_refl _, fun _ => ⟨rfl, .inl rfl⟩, fun h => by cases h⟩
 case round =>
  obtain ⟨k, m, over, rfl, rfl, hmm, hp, hit, hbw, hI⟩ := hrel
  have HI := lH hI
  have HIT := lH hit
  have HBW := lH hbw
  have hm0' : 0 ≤ m := hI.2.1
  have hsz : w.heap.size < wr.heap.size := (Array.getElem?_eq_some_iff.1 hit).1
  clear hI hit hbw
  by_cases hlt : k < s.size
  ·obtain ⟨r, wd, hr, hwd, hr0, hr1, hwd1, hq, hq1⟩ := rune_facts s k hlt
   have hnx : ∀ ty, (Instr.next (.pointer (some ⟨w.heap.size, 0, none⟩)) true ty).run Tryz.prog wr = .ok (.tuple #[.bool true, .int .i64 k, .int .i32 r]) (wr.iterAt w.heap.size s (k + wd)) := fun ty => by
    rw [Lib.run_next_any_at wr w.heap.size s k ty HIT.out hlt, hr, hwd]
   have HIT2 := lH (Lib.iterAt_heap wr w.heap.size s k (k + wd) HIT.out)
   have HBW2 := lH (Lib.below_iterAt HBW.out (k := w.heap.size) (nR _) s (k + wd))
   obtain ⟨d, hd⟩ : ∃ d, d = digV r := ⟨_, rfl⟩
   have hdr : -1 ≤ d ∧ d ≤ 15 := by rw [hd]; exact digV_range r
   have hd1 := hdr.1
   have hd2 := hdr.2
   have HD := lH hd
   have HQ := lH hq
   have HQ1 := lH hq1
   clear hr hwd hdr hd hq hq1
   go_wp2_with fail
   refine (digit_any r hr0 hr1 _).mono ?_
   rintro en w1 ⟨rfl, rfl⟩
   rw [← HD.out]
   by_cases hbad : d < 0 ∨ 16 ≤ d
   ·have hR : Hid ((0, 3) = (n, e)) := by
     show (0, 3) = (n, e)
     rw [← HR.out]
     unfold numRes
     rw [HZ.out, all_not_at hlt (q := digB 16) (by unfold digB; rw [← HQ.out, ← HD.out, decide_eq_false_iff_not]; omega)]
     rfl
    rcases hbad with hbad | hbad
    ·go_wp2_with fail
     go_ret2
     obtain ⟨rfl, rfl⟩ := Prod.mk.inj hR.out
     exact ⟨rfl, HBW2.out⟩
    ·have hd0 : 0 ≤ d := by omega
     go_wp2_with fail
     go_ret2
     obtain ⟨rfl, rfl⟩ := Prod.mk.inj hR.out
     exact ⟨rfl, HBW2.out⟩
   ·have hd0 : 0 ≤ d := by omega
    have hdB : d < 16 := by omega
    obtain rfl : wd = 1 := HQ1.out (by rw [← HD.out]; exact hd0)
    clear hbad
    have hdq : Hid (d = digV (s[k]'hlt).toNat) := by show d = _; rw [HD.out, HQ.out]
    cases over
    ·by_cases h3 : most < d
     ·go_wp2_with fail
      go_roundw
      case rel => exact ⟨k + 1, m, true, rfl, rfl, hmm, by omega, HIT2.out, HBW2.out, HI.out.next hlt hdq.out hd0 hdB (fun h => by cases h) (fun _ => .inr (.inl h3)) hm0'⟩
      case measure =>
       simp only [World.iterPos, HIT2.out, HIT.out]
       omega
     ·have h3' : d ≤ most := by omega
      have hq0 : 0 ≤ (most - d) / 16 := by omega
      by_cases h4 : (most - d) / 16 < m
      ·go_wp2_with fail
       go_roundw
       case rel => exact ⟨k + 1, m, true, rfl, rfl, hmm, by omega, HIT2.out, HBW2.out, HI.out.next hlt hdq.out hd0 hdB (fun h => by cases h) (fun _ => .inr (.inr h4)) hm0'⟩
       case measure =>
        simp only [World.iterPos, HIT2.out, HIT.out]
        omega
      ·have h5 : m * 16 + d ≤ most := by omega
       have e1 : decide (most < d) = false := by rw [decide_eq_false_iff_not]; omega
       have e2 : decide ((most - d) / 16 < m) = false := by rw [decide_eq_false_iff_not]; omega
       go_wp2_with fail
       go_roundw
       case rel => exact ⟨k + 1, m * 16 + d, false, rfl, rfl, by omega, by omega, HIT2.out, HBW2.out, HI.out.next hlt hdq.out hd0 hdB (fun _ => ⟨rfl, rfl, h5⟩) (fun h => by cases h) (by omega)⟩
       case measure =>
        simp only [World.iterPos, HIT2.out, HIT.out]
        omega
    ·go_wp2_with fail
     go_roundw
     case rel => exact ⟨k + 1, m, true, rfl, rfl, hmm, by omega, HIT2.out, HBW2.out, HI.out.next hlt hdq.out hd0 hdB (fun h => by cases h) (fun _ => .inl rfl) hm0'⟩
     case measure =>
      simp only [World.iterPos, HIT2.out, HIT.out]
      omega
  ·have hnx : ∀ ty, (Instr.next (.pointer (some ⟨w.heap.size, 0, none⟩)) true ty).run Tryz.prog wr = _ := fun ty => Lib.run_next_end_at wr w.heap.size s k ty HIT.out hlt
   obtain rfl : k = s.size := by omega
   have hT : s.data.toList.take s.size = s.data.toList := List.take_of_length_le (by rw [← Lib.size_eq]; exact nR _)
   have HT := lH hT
   have hz0 : s.size ≠ 0 := fun h0 => by
    have h1 := HZ.out
    rw [Lib.size_eq, List.length_eq_zero_iff] at h0
    rw [h0] at h1
    cases h1
   cases over
   ·have hR : Hid ((m, 0) = (n, e)) := by
     obtain ⟨a, b, c, _⟩ := HI.out
     rw [HT.out] at a c
     obtain ⟨c1, c2⟩ := c rfl
     show (m, 0) = (n, e)
     rw [← HR.out]
     unfold numRes
     rw [HZ.out, a, ← c1]
     rcases c2 with c2 | c2
     ·exact absurd c2 hz0
     ·simp [c2]
    clear hT hz0
    go_wp2_with fail
    go_ret2
    obtain ⟨rfl, rfl⟩ := Prod.mk.inj hR.out
    exact ⟨rfl, HBW.out⟩
   ·have hR : Hid ((0, 5) = (n, e)) := by
     obtain ⟨a, b, _, c⟩ := HI.out
     rw [HT.out] at a c
     have c1 := c rfl
     show (0, 5) = (n, e)
     rw [← HR.out]
     unfold numRes
     rw [HZ.out, a, if_neg (by simp), if_neg (by simp), if_neg (by omega)]
    clear hT hz0
    go_wp2_with fail
    go_ret2
    obtain ⟨rfl, rfl⟩ := Prod.mk.inj hR.out
    exact ⟨rfl, HBW.out⟩
theorem hex_any (s : ByteArray) (most : Int) (hs : s.size ≤ 9223372036854775807) (hm : most ≤ 9223372036854775807) (hm0 : -9223372036854775808 ≤ most) (n e : Int) (hr : numRes s.data.toList 16 most = (n, e)) (w : World) :
 Calls Tryz.prog 169 #[.string s, .int .i64 most] w fun en w' => en = .returned (.tuple #[.int .i64 n, .int .i64 e]) ∧ Below w.heap.size w w' := by
 have HR := lH hr
 clear hr
 go_enter Tryz.func169, Tryz.ntmps169
 go_wp2_with fail
 refine (number_16 s most hs hm hm0 n e HR.out _).mono ?_
 rintro en w1 ⟨rfl, hb⟩
 go_wp2_with fail
 go_ret2
 exact ⟨rfl, hb⟩
end Go.Proofs.YtaojfiegnebbdaaGreatDoor