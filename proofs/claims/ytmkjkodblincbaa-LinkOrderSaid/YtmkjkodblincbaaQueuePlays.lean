/- The walk of QueuePlays. -/
import Derived.Test.YtmkjkodblincbaaQueueLaw
namespace Go.Proofs.Ytmkjkodblincbaa
open Go.RowKit
theorem Touch.cell {P : Nat → Prop} {w w1 : World} {p : Addr} {v : Value} (h : Touch P w w1) (hp : ¬ P p.block) (hc : w.cell? p = some v) : w1.cell? p = some v := by
  have hlt := World.block_lt_of_cell? _ _ hc
  have := h.block p.block hlt hp
  unfold World.cell? at hc ⊢
  rw [this]
  exact hc
theorem len_at {w : World} {b g most : Nat} {S : List UInt8} (h : Que w b g most S) (n : Nat) (hn : n = S.length) : Calls Try.prog 26 #[.pointer (some ⟨b, 0, none⟩)] w fun e w' => e = .returned (.int .i64 n) ∧ w' = w := by
  rw [hn]; exact (len_any h).mono fun e w' ⟨h1, h2⟩ => ⟨h1, h2.symm⟩
theorem room_at {w : World} {b g most : Nat} {S : List UInt8} (h : Que w b g most S) (n : Nat) (hn : n = S.length) : Calls Try.prog 27 #[.pointer (some ⟨b, 0, none⟩)] w fun e w' => e = .returned (.int .i64 (most - n)) ∧ w' = w := by
  rw [hn]; exact (room_any h).mono fun e w' ⟨h1, h2⟩ => ⟨h1, h2.symm⟩
theorem most_at {w : World} {b g most : Nat} {S : List UInt8} (h : Que w b g most S) : Calls Try.prog 28 #[.pointer (some ⟨b, 0, none⟩)] w fun e w' => e = .returned (.int .i64 most) ∧ w' = w :=
  (most_any h).mono fun e w' ⟨h1, h2⟩ => ⟨h1, h2.symm⟩
theorem Que.drew {w : World} {b g most : Nat} {S : List UInt8} (h : Que w b g most S) : Que w.drew b g most S := h.touch (P := fun _ => False) (Touch.refl _ _).drew id id
theorem Que.drewN {w : World} {b g most : Nat} {S : List UInt8} (h : Que w b g most S) (n : Nat) : Que (w.drewN n) b g most S := h.touch (P := fun _ => False) ((Touch.refl _ _).drewN n) id id
theorem Rq.touch {P : Nat → Prop} {w w1 : World} {b : Nat} {S : ByteArray} {most : Int} (h : Rq w b S most) (ht : Touch P w w1) (hb : ¬ P b) : Rq w1 b S most := Blk.touch h ht hb
theorem rput_at {w : World} {b : Nat} {S : ByteArray} {most : Nat} (h : Rq w b S (most : Int)) (s : ByteArray) (hs : s.size ≤ 9223372036854775807) (hm : most ≤ 4611686018427387903) (hle : S.size ≤ most) (k : Nat) (hk : k = min s.size (most - S.size)) (S' : ByteArray) (hS : S' = S ++ s.extract 0 k) :
    Calls Try.prog 21 #[.pointer (some ⟨b, 0, none⟩), .string s] w fun e w' => e = .returned (.int .i64 k) ∧ Rq w' b S' most ∧ Touch (fun i => i = b) w w' := by
  rw [hS, hk]; exact rput_any h s hs hm hle
theorem rtake_at {w : World} {b : Nat} {S : ByteArray} {most : Int} (h : Rq w b S most) (k : Int) (hs : S.size ≤ 9223372036854775807) (x S' : ByteArray) (hx : x = ⟨(S.data.toList.take k.toNat).toArray⟩) (hS : S' = ⟨(S.data.toList.drop k.toNat).toArray⟩) :
    Calls Try.prog 23 #[.pointer (some ⟨b, 0, none⟩), .int .i64 k] w fun e w' => e = .returned (.string x) ∧ Rq w' b S' most ∧ Touch (fun i => i = b) w w' := by
  rw [hS, hx]; exact rtake_any h k hs
theorem rpeek_at {w : World} {b : Nat} {S : ByteArray} {most : Int} (h : Rq w b S most) (k : Int) (hs : S.size ≤ 9223372036854775807) (x : ByteArray) (hx : x = ⟨(S.data.toList.take k.toNat).toArray⟩) :
    Calls Try.prog 25 #[.pointer (some ⟨b, 0, none⟩), .int .i64 k] w fun e w' => e = .returned (.string x) ∧ w = w' := by
  rw [hx]; exact rpeek_any h k hs
set_option maxHeartbeats 1000000 in
theorem qplays_main {w : World} {A : Option Addr} {len cap most : Nat} {l : List GAct} (h : Acts w A len l) (hl : len ≤ 60) (hs : l.all short = true) (hm : most ≤ 2000) :
    Calls Try.prog 5 #[.int .i64 most, .slice A len cap] w fun e w' => e = .returned (.bool true) ∧ Below w.heap.size w w' := by
  have H := Lib.hid h
  have HS := Lib.hid hs
  clear h hs
  have m0 : decide ((most : Int) < 0) = false := by simp
  have m1 : decide ((2000 : Int) < (most : Int)) = false := by simp; omega
  go_enter Try.func5, Try.ntmps5
  go_wp2_with fail
  refine (few_any H.out hl).mono ?_
  rintro e wf ⟨rfl, bf⟩
  rw [HS.out]
  have BF := Lib.hid bf
  have bfz := bf.size
  clear bf
  go_wp2_with fail
  refine (qnew_any most (by omega) _).mono ?_
  rintro e w1 ⟨rfl, q1, b1, z1⟩
  have Q1 := Lib.hid q1
  have B1 := Lib.hid b1
  have Z1 := Lib.hid z1
  have z1' : wf.heap.size + 1 < w1.heap.size := by omega
  clear q1 b1 z1
  go_wp2_with fail
  rcases Nat.eq_zero_or_pos len with rfl | h0
  · refine wp_loop_rounds 1 ?_
    rw [rounds_succ]
    go_wp2_with fail
    refine (qlives _).mono ?_
    rintro e w' ⟨rfl, hb2⟩
    go_wp2_with fail
    go_ret
    have hz := (B1.out).size
    exact ⟨rfl, ((BF.out.trans (B1.out.mono bfz)).alloc (by omega) _).trans (hb2.mono (by simp; omega))⟩
  obtain ⟨b, off, rfl, hb, hc⟩ := H.out.cells h0
  have HC := Lib.hid hc
  clear hc
  go_loopw [43] (fun i wr => ∃ (k : Nat) (sv : ByteArray), k ≤ len ∧ i = .int .i64 k ∧ sv.size ≤ most ∧ Que wr (wf.heap.size + 1) wf.heap.size most sv.data.toList ∧ Rq wr w1.heap.size sv most ∧ Below w.heap.size w wr) (fun i _ => len - (intOf i).toNat)
  case atStart =>
    refine ⟨0, ⟨#[]⟩, Nat.zero_le _, rfl, Nat.zero_le _, ?_, Blk.new _ _ _, ?_⟩
    · exact Q1.out.touch (P := fun _ => False) ((Touch.refl _ _).alloc _) id id
    · exact (BF.out.trans (B1.out.mono bfz)).alloc (by omega) _
  case round =>
    obtain ⟨k, sv, hk, rfl, hsv, hq, hr, hnx⟩ := hrel
    have HQ := Lib.hid hq
    have HR := Lib.hid hr
    have hrb := hr.lt
    clear hq hr
    by_cases hlt : k < len
    · obtain ⟨a, _, c1, c2, c3, f1, f2, f3, f4, f5⟩ := H.out.get hnx hlt
      have hz := hnx.size
      by_cases o1 : a.op = 1
      · have e1 : (a.op == 1) = true := by simpa using o1
        obtain ⟨K, hK⟩ : ∃ K, K = min a.text.size (most - sv.size) := ⟨_, rfl⟩
        obtain ⟨sv', hsv'⟩ : ∃ x, x = sv ++ a.text.extract 0 K := ⟨_, rfl⟩
        have hsz' : sv'.size = sv.size + K := by rw [hsv', ByteArray.size_append, ByteArray.size_extract]; omega
        have hle' : sv'.size ≤ most := by omega
        have P1 := Lib.hid (show (K : Int) = (min a.text.size (most - sv.data.toList.length) : Nat) by rw [bsize, hK])
        have P2 := Lib.hid (show sv'.data.toList = sv.data.toList ++ a.text.data.toList.take (most - sv.data.toList.length) by
          rw [hsv', data_append, data_extract, List.drop_zero, Nat.sub_zero, bsize]
          congr 1
          rw [List.take_eq_take_iff, bsize]
          omega)
        have P3 := Lib.hid hK
        have P4 := Lib.hid hsv'
        clear hK hsv' hsz'
        have O1 := Lib.hid o1
        clear o1
        go_wp2_with fail
        obtain ⟨W, hW⟩ : ∃ W, W = wr.alloc (.cells #[.int .i64 a.op, .int .i64 a.n, .string a.text] 50) := ⟨_, rfl⟩
        rw [← hW]
        have hqW : Que W (wf.heap.size + 1) wf.heap.size most sv.data.toList := by rw [hW]; exact HQ.out.touch (P := fun _ => False) ((Touch.refl _ _).alloc _) id id
        have hrW : Rq W w1.heap.size sv most := by rw [hW]; exact HR.out.touch (P := fun _ => False) ((Touch.refl _ _).alloc _) id
        have hbW : Below w.heap.size w W := by rw [hW]; exact hnx.alloc hz _
        have hcW1 : W.cell? ⟨wr.heap.size, 1, none⟩ = some (.int .i64 a.n) := by rw [hW]; exact (Blk.new _ _ _).cell 1
        have hcW2 : W.cell? ⟨wr.heap.size, 2, none⟩ = some (.string a.text) := by rw [hW]; exact (Blk.new _ _ _).cell 2
        have hsW : w.heap.size ≤ W.heap.size := hbW.size
        have HQW := Lib.hid hqW
        have HRW := Lib.hid hrW
        have HBW := Lib.hid hbW
        have n1 : ¬ (wr.heap.size = wf.heap.size + 1 ∨ wr.heap.size = wf.heap.size) := by omega
        have n2 : ¬ (w1.heap.size = wf.heap.size + 1 ∨ w1.heap.size = wf.heap.size) := by omega
        have n3 : ¬ (wr.heap.size = w1.heap.size) := by omega
        have n4 : ¬ (wf.heap.size + 1 = w1.heap.size) := by omega
        have n5 : ¬ (wf.heap.size = w1.heap.size) := by omega
        clear hqW hrW hbW hW
        go_region_held3 (fun w' => w'.cell? ⟨wr.heap.size, 2, none⟩ = some (.string a.text)) (first | exact hcW2 | exact Touch.cell (by assumption) n1 (by assumption) | exact Touch.cell (by assumption) n3 (by assumption)) ((first
          | (go_at_call 20; refine (put_at HQW.out.drew a.text f5 K sv'.data.toList P1.out P2.out).mono ?_; rintro e w2 ⟨rfl, q2, t2⟩; have Q2 := Lib.hid q2; clear q2)
          | (go_at_call 21; refine (rput_at (Rq.touch (P := fun i => i = wf.heap.size + 1 ∨ i = wf.heap.size) (w := W.drew) HRW.out t2 n2) a.text f5 (by omega) hsv K P3.out sv' P4.out).mono ?_; rintro e w3 ⟨rfl, r3, t3⟩; have R3 := Lib.hid r3; clear r3)))
        have q3 : Que w3 (wf.heap.size + 1) wf.heap.size most sv'.data.toList := Q2.out.touch t3 n4 n5
        have r4 : Rq w3 w1.heap.size sv' most := R3.out
        have b3 : Below w.heap.size w w3 := by
          refine HBW.out.drew.trans (((Touch.trans (P := fun i => i = wf.heap.size + 1 ∨ i = wf.heap.size ∨ i = w1.heap.size) (t2.mono fun _ _ h => ?_) (t3.mono fun _ _ h => ?_)).below (fun i _ h => ?_) hsW))
          · exact h.elim .inl (fun h => .inr (.inl h))
          · exact .inr (.inr h)
          · omega
        have Q3 := Lib.hid q3
        have R4 := Lib.hid r4
        have B3 := Lib.hid b3
        have hk0 : w3.cell? ⟨w1.heap.size, 0, none⟩ = some (.string sv') := R4.out.cell 0
        have hbs := Lib.hid (bsize sv').symm
        go_wp2_with fail
        go_quiet ((first
          | (go_at_call 26; exact Calls.quiet_of_same (len_at (Q3.out.drewN _) sv'.size hbs.out))
          | (go_at_call 27; exact Calls.quiet_of_same (room_at (Q3.out.drewN _) sv'.size hbs.out))
          | (go_at_call 28; exact Calls.quiet_of_same (most_at (Q3.out.drewN _)))))
        go_wp2_with fail
        go_roundw
        case rel => exact ⟨k + 1, sv', by omega, by go_num, hle', Q3.out.drewN _, R4.out, B3.out.trans ⟨rfl, rfl, rfl, Nat.le_refl _, fun _ _ => rfl⟩⟩
        case measure => simp [intOf]; omega
      have e1 : (a.op == 1) = false := by simpa using o1
      obtain ⟨x, hx⟩ : ∃ x : ByteArray, x = ⟨(sv.data.toList.take a.n.toNat).toArray⟩ := ⟨_, rfl⟩
      have P1 := Lib.hid hx
      clear hx o1
      by_cases o2 : a.op = 2
      · have e2 : (a.op == 2) = true := by simpa using o2
        obtain ⟨sv', hsv'⟩ : ∃ x : ByteArray, x = ⟨(sv.data.toList.drop a.n.toNat).toArray⟩ := ⟨_, rfl⟩
        have hd' : sv'.data.toList = sv.data.toList.drop a.n.toNat := by rw [hsv']
        have hle' : sv'.size ≤ most := by
          have h1 := bsize sv'
          have h2 := bsize sv
          rw [hd', List.length_drop] at h1
          omega
        have P2 := Lib.hid hd'
        have P4 := Lib.hid hsv'
        clear hsv' hd'
        have O2 := Lib.hid o2
        clear o2
        go_wp2_with fail
        obtain ⟨W, hW⟩ : ∃ W, W = wr.alloc (.cells #[.int .i64 a.op, .int .i64 a.n, .string a.text] 50) := ⟨_, rfl⟩
        rw [← hW]
        have hqW : Que W (wf.heap.size + 1) wf.heap.size most sv.data.toList := by rw [hW]; exact HQ.out.touch (P := fun _ => False) ((Touch.refl _ _).alloc _) id id
        have hrW : Rq W w1.heap.size sv most := by rw [hW]; exact HR.out.touch (P := fun _ => False) ((Touch.refl _ _).alloc _) id
        have hbW : Below w.heap.size w W := by rw [hW]; exact hnx.alloc hz _
        have hcW1 : W.cell? ⟨wr.heap.size, 1, none⟩ = some (.int .i64 a.n) := by rw [hW]; exact (Blk.new _ _ _).cell 1
        have hcW2 : W.cell? ⟨wr.heap.size, 2, none⟩ = some (.string a.text) := by rw [hW]; exact (Blk.new _ _ _).cell 2
        have hsW : w.heap.size ≤ W.heap.size := hbW.size
        have HQW := Lib.hid hqW
        have HRW := Lib.hid hrW
        have HBW := Lib.hid hbW
        have n1 : ¬ (wr.heap.size = wf.heap.size + 1 ∨ wr.heap.size = wf.heap.size) := by omega
        have n2 : ¬ (w1.heap.size = wf.heap.size + 1 ∨ w1.heap.size = wf.heap.size) := by omega
        have n3 : ¬ (wr.heap.size = w1.heap.size) := by omega
        have n4 : ¬ (wf.heap.size + 1 = w1.heap.size) := by omega
        have n5 : ¬ (wf.heap.size = w1.heap.size) := by omega
        clear hqW hrW hbW hW
        go_region_held3 (fun w' => w'.cell? ⟨wr.heap.size, 1, none⟩ = some (.int .i64 a.n)) (first | exact hcW1 | exact Touch.cell (by assumption) n1 (by assumption) | exact Touch.cell (by assumption) n3 (by assumption)) ((first
          | (go_at_call 22; refine (take_at HQW.out.drew a.n f4 x sv'.data.toList P1.out P2.out).mono ?_; rintro e w2 ⟨rfl, q2, t2⟩; have Q2 := Lib.hid q2; clear q2)
          | (go_at_call 23; refine (rtake_at (Rq.touch (P := fun i => i = wf.heap.size + 1 ∨ i = wf.heap.size) (w := W.drew) HRW.out t2 n2) a.n (by omega) x sv' P1.out P4.out).mono ?_; rintro e w3 ⟨rfl, r3, t3⟩; have R3 := Lib.hid r3; clear r3)))
        have q3 : Que w3 (wf.heap.size + 1) wf.heap.size most sv'.data.toList := Q2.out.touch t3 n4 n5
        have r4 : Rq w3 w1.heap.size sv' most := R3.out
        have b3 : Below w.heap.size w w3 := by
          refine HBW.out.drew.trans (((Touch.trans (P := fun i => i = wf.heap.size + 1 ∨ i = wf.heap.size ∨ i = w1.heap.size) (t2.mono fun _ _ h => ?_) (t3.mono fun _ _ h => ?_)).below (fun i _ h => ?_) hsW))
          · exact h.elim .inl (fun h => .inr (.inl h))
          · exact .inr (.inr h)
          · omega
        have Q3 := Lib.hid q3
        have R4 := Lib.hid r4
        have B3 := Lib.hid b3
        have hk0 : w3.cell? ⟨w1.heap.size, 0, none⟩ = some (.string sv') := R4.out.cell 0
        have hbs := Lib.hid (bsize sv').symm
        go_wp2_with fail
        go_quiet ((first
          | (go_at_call 26; exact Calls.quiet_of_same (len_at (Q3.out.drewN _) sv'.size hbs.out))
          | (go_at_call 27; exact Calls.quiet_of_same (room_at (Q3.out.drewN _) sv'.size hbs.out))
          | (go_at_call 28; exact Calls.quiet_of_same (most_at (Q3.out.drewN _)))))
        go_wp2_with fail
        go_roundw
        case rel => exact ⟨k + 1, sv', by omega, by go_num, hle', Q3.out.drewN _, R4.out, B3.out.trans ⟨rfl, rfl, rfl, Nat.le_refl _, fun _ _ => rfl⟩⟩
        case measure => simp [intOf]; omega
      · have e2 : (a.op == 2) = false := by simpa using o2
        clear o2
        go_wp2_with fail
        obtain ⟨W, hW⟩ : ∃ W, W = wr.alloc (.cells #[.int .i64 a.op, .int .i64 a.n, .string a.text] 50) := ⟨_, rfl⟩
        rw [← hW]
        have hqW : Que W (wf.heap.size + 1) wf.heap.size most sv.data.toList := by rw [hW]; exact HQ.out.touch (P := fun _ => False) ((Touch.refl _ _).alloc _) id id
        have hrW : Rq W w1.heap.size sv most := by rw [hW]; exact HR.out.touch (P := fun _ => False) ((Touch.refl _ _).alloc _) id
        have hbW : Below w.heap.size w W := by rw [hW]; exact hnx.alloc hz _
        have hcW1 : W.cell? ⟨wr.heap.size, 1, none⟩ = some (.int .i64 a.n) := by rw [hW]; exact (Blk.new _ _ _).cell 1
        have hcW2 : W.cell? ⟨wr.heap.size, 2, none⟩ = some (.string a.text) := by rw [hW]; exact (Blk.new _ _ _).cell 2
        have hsW : w.heap.size ≤ W.heap.size := hbW.size
        have HQW := Lib.hid hqW
        have HRW := Lib.hid hrW
        have HBW := Lib.hid hbW
        have n1 : ¬ (wr.heap.size = wf.heap.size + 1 ∨ wr.heap.size = wf.heap.size) := by omega
        have n2 : ¬ (w1.heap.size = wf.heap.size + 1 ∨ w1.heap.size = wf.heap.size) := by omega
        have n3 : ¬ (wr.heap.size = w1.heap.size) := by omega
        have n4 : ¬ (wf.heap.size + 1 = w1.heap.size) := by omega
        have n5 : ¬ (wf.heap.size = w1.heap.size) := by omega
        clear hqW hrW hbW hW
        go_region_held3 (fun w' => w'.cell? ⟨wr.heap.size, 1, none⟩ = some (.int .i64 a.n)) (first | exact hcW1 | exact Touch.cell (by assumption) id (by assumption) | assumption) ((first
          | (go_at_call 24; refine (peek_at HQW.out.drew a.n f4 x P1.out).mono ?_; rintro e w2 ⟨rfl, m2, hw2⟩; have t2 : Touch (fun _ => False) W.drew w2 := hw2 ▸ (Touch.refl _ _).drewN m2; clear hw2)
          | (go_at_call 25; refine (rpeek_at (Rq.touch (P := fun _ => False) (w := W.drew) HRW.out t2 id) a.n (by omega) x P1.out).mono ?_; rintro e w3 ⟨rfl, rfl⟩)))
        have q3 : Que w2 (wf.heap.size + 1) wf.heap.size most sv.data.toList := HQW.out.drew.touch t2 id id
        have r4 : Rq w2 w1.heap.size sv most := Rq.touch (P := fun _ => False) (w := W.drew) HRW.out t2 id
        have b3 : Below w.heap.size w w2 := HBW.out.drew.trans (t2.below (fun _ _ h => h.elim) hsW)
        have Q3 := Lib.hid q3
        have R4 := Lib.hid r4
        have B3 := Lib.hid b3
        have hk0 : w2.cell? ⟨w1.heap.size, 0, none⟩ = some (.string sv) := R4.out.cell 0
        have hbs := Lib.hid (bsize sv).symm
        go_wp2_with fail
        go_quiet ((first
          | (go_at_call 26; exact Calls.quiet_of_same (len_at (Q3.out.drewN _) sv.size hbs.out))
          | (go_at_call 27; exact Calls.quiet_of_same (room_at (Q3.out.drewN _) sv.size hbs.out))
          | (go_at_call 28; exact Calls.quiet_of_same (most_at (Q3.out.drewN _)))))
        go_wp2_with fail
        go_roundw
        case rel => exact ⟨k + 1, sv, by omega, by go_num, hsv, Q3.out.drewN _, R4.out, B3.out.trans ⟨rfl, rfl, rfl, Nat.le_refl _, fun _ _ => rfl⟩⟩
        case measure => simp [intOf]; omega
    · go_wp2_with fail
      refine (qlives _).mono ?_
      rintro e w' ⟨rfl, hb2⟩
      go_wp2_with fail
      go_ret
      exact ⟨rfl, hnx.trans (hb2.mono hnx.size)⟩
set_option maxHeartbeats 1000000 in
theorem qplays_low {w : World} {A : Option Addr} {len cap : Nat} {most : Int} (hm : most < 0) :
    Calls Try.prog 5 #[.int .i64 most, .slice A len cap] w fun e w' => e = .returned (.bool true) ∧ Below w.heap.size w w' := by
  have m0 : decide (most < 0) = true := by simpa using hm
  have m1 : decide (0 ≤ most) = false := by simp; omega
  go_enter Try.func5, Try.ntmps5
  go_wp2_with fail
  refine (qnew_low most hm _).mono ?_
  rintro e w' ⟨rfl, rfl⟩
  go_wp2_with fail
  refine (qlives _).mono ?_
  rintro e w' ⟨rfl, hb2⟩
  go_wp2_with fail
  go_ret
  exact ⟨rfl, hb2⟩
set_option maxHeartbeats 1000000 in
theorem qplays_high {w : World} {A : Option Addr} {len cap : Nat} {most : Int} (hm : 65536 < most) :
    Calls Try.prog 5 #[.int .i64 most, .slice A len cap] w fun e w' => e = .returned (.bool true) ∧ Below w.heap.size w w' := by
  have m0 : decide (most < 0) = false := by simp; omega
  have m1 : decide (0 ≤ most) = true := by simp; omega
  have m2 : decide (2000 < most) = true := by simp; omega
  have m3 : decide (most ≤ 65536) = false := by simp; omega
  go_enter Try.func5, Try.ntmps5
  go_wp2_with fail
  refine (qnew_high most hm _).mono ?_
  rintro e w' ⟨rfl, rfl⟩
  go_wp2_with fail
  refine (qlives _).mono ?_
  rintro e w' ⟨rfl, hb2⟩
  go_wp2_with fail
  go_ret
  exact ⟨rfl, hb2⟩
set_option maxHeartbeats 1000000 in
theorem qplays_much {w : World} {A : Option Addr} {len cap : Nat} {most : Int} (hm : most ≤ 65536) (hm2 : 2000 < most) :
    Calls Try.prog 5 #[.int .i64 most, .slice A len cap] w fun e w' => e = .returned (.bool true) ∧ Below w.heap.size w w' := by
  have m0 : decide (most < 0) = false := by simp; omega
  have m1 : decide (0 ≤ most) = true := by simp; omega
  have m2 : decide (2000 < most) = true := by simp; omega
  have m3 : decide (most ≤ 65536) = true := by simp; omega
  go_enter Try.func5, Try.ntmps5
  go_wp2_with fail
  refine (qlives _).mono ?_
  rintro e w' ⟨rfl, hb2⟩
  go_wp2_with fail
  go_ret
  exact ⟨rfl, hb2⟩
/-- What few answers, for any number of calls. -/
theorem few_all {w : World} {A : Option Addr} {len cap : Nat} {l : List GAct} (h : Acts w A len l) (hm : len ≤ 9223372036854775807) :
    Calls Try.prog 17 #[.slice A len cap] w fun e w' => e = .returned (.bool (decide (len ≤ 60) && l.all short)) ∧ Below w.heap.size w w' := by
  by_cases hl : len ≤ 60
  · refine (few_any h hl).mono ?_
    rintro e w' ⟨rfl, hb⟩
    exact ⟨by rw [decide_eq_true hl, Bool.true_and], hb⟩
  · refine (few_long (by omega) hm).mono ?_
    rintro e w' ⟨rfl, rfl⟩
    exact ⟨by rw [decide_eq_false hl, Bool.false_and], Below.refl _ _⟩
set_option maxHeartbeats 1000000 in
theorem qplays_many {w : World} {A : Option Addr} {len cap : Nat} {l : List GAct} {most : Int} (h : Acts w A len l) (hlm : len ≤ 9223372036854775807) (hf : (decide (len ≤ 60) && l.all short) = false) (hm : 0 ≤ most) (hm2 : most ≤ 2000) :
    Calls Try.prog 5 #[.int .i64 most, .slice A len cap] w fun e w' => e = .returned (.bool true) ∧ Below w.heap.size w w' := by
  have H := Lib.hid h
  have HF := Lib.hid hf
  clear h hf
  have m0 : decide (most < 0) = false := by simp; omega
  have m1 : decide (0 ≤ most) = true := by simp; omega
  have m2 : decide (2000 < most) = false := by simp; omega
  have m3 : decide (most ≤ 65536) = true := by simp; omega
  go_enter Try.func5, Try.ntmps5
  go_wp2_with fail
  refine (few_all H.out hlm).mono ?_
  rintro e wf ⟨rfl, bf⟩
  rw [HF.out]
  go_wp2_with fail
  refine (qlives _).mono ?_
  rintro e w' ⟨rfl, hb2⟩
  go_wp2_with fail
  go_ret
  exact ⟨rfl, bf.trans (hb2.mono bf.size)⟩
theorem qplays_any {w : World} {A : Option Addr} {len cap : Nat} {l : List GAct} {most : Int} (h : Acts w A len l) (hlm : len ≤ 9223372036854775807) :
    Calls Try.prog 5 #[.int .i64 most, .slice A len cap] w fun e w' => e = .returned (.bool true) ∧ Below w.heap.size w w' := by
  by_cases h0 : most < 0
  · exact qplays_low h0
  by_cases h1 : 65536 < most
  · exact qplays_high h1
  by_cases h2 : 2000 < most
  · exact qplays_much (by omega) h2
  cases hf : (decide (len ≤ 60) && l.all short) with
  | false => exact qplays_many h hlm hf (by omega) (by omega)
  | true =>
    rw [Bool.and_eq_true, decide_eq_true_eq] at hf
    obtain ⟨m, rfl⟩ := Int.eq_ofNat_of_zero_le (show 0 ≤ most by omega)
    exact qplays_main h hf.1 hf.2 (by omega)
end Go.Proofs.Ytmkjkodblincbaa
