/- Package abutmentlaw38's LinkPlays: its walk. -/
import Derived.Test.YtmkjkodblincbaaHead
namespace Go.Proofs.Ytmkjkodblincbaa
open Go.RowKit
theorem quietD {f : FuncId} {args : Array Value} {w : World} {n : Nat} {v : Value} (h : Calls Try.prog f args (w.drewN n) fun e w' => e = .returned v ∧ ∃ m, (w.drewN n).drewN m = w') : Calls Try.prog f args (w.drewN n) fun e w'' => e = .returned v ∧ ∃ m, w'' = w.drewN m :=
  Calls.quiet_of (h.mono fun _ _ ⟨a, m, b⟩ => ⟨a, m, b.symm⟩)
theorem quietS {f : FuncId} {args : Array Value} {w : World} {n : Nat} {v : Value} (h : Calls Try.prog f args (w.drewN n) fun e w' => e = .returned v ∧ w.drewN n = w') : Calls Try.prog f args (w.drewN n) fun e w'' => e = .returned v ∧ ∃ m, w'' = w.drewN m :=
  Calls.quiet_of_same (h.mono fun _ _ ⟨a, b⟩ => ⟨a, b.symm⟩)
theorem isEmpty_size (x : ByteArray) : x.toList.isEmpty = decide (x.size = 0) := by
  rw [ByteArray.toList_eq, ← bsize]
  cases x.data.toList <;> simp
theorem dry_at {w : World} {b : Nat} {d : LD} (h : IsL w b d) (v : Bool) (hv : v = (d.ended && decide (d.I.length = 0))) : Calls Try.prog 34 #[.pointer (some ⟨b, 0, none⟩)] w fun e w' => e = .returned (.bool v) ∧ w = w' := by
  rw [hv]; exact dry_any h
theorem over_at {w : World} {b : Nat} {d : LD} (h : IsL w b d) (hs : d.more.size ≤ 4611686018427387903) (v : Bool) (hv : v = (d.shut && decide (d.O.length + d.more.size = 0))) : Calls Try.prog 37 #[.pointer (some ⟨b, 0, none⟩)] w fun e w' => e = .returned (.bool v) ∧ ∃ n, w.drewN n = w' := by
  rw [hv]; exact over_any h hs
theorem live_at {w : World} {b : Nat} {d : LD} (h : IsL w b d) (v : Bool) (hv : v = !d.shut) : Calls Try.prog 38 #[.pointer (some ⟨b, 0, none⟩)] w fun e w' => e = .returned (.bool v) ∧ w = w' := by
  rw [hv]; exact live_any h
/-- What a pair tells alike. -/
structure Tells (d : LD) (In Out : ByteArray) (p q r : Bool) : Prop where
  p1 : p = decide (d.I.length = 0)
  p2 : In.toList.isEmpty = p
  q1 : q = decide (d.O.length + d.more.size = 0)
  q2 : Out.toList.isEmpty = q
  r1 : r = d.more.toList.isEmpty
  r2 : decide (Out.size ≤ d.most) = r
  k1 : (Out.size : Int) = (d.O.length + d.more.size : Nat)
theorem Pair.tells {w : World} {b rb : Nat} {d : LD} {In Out : ByteArray} (h : Pair w b rb d In Out) : ∃ p q r, Tells d In Out p q r := by
  have hi := bsize In
  have ho := bsize Out
  rw [h.i] at hi
  rw [h.o, List.length_append, bsize] at ho
  have hl := h.l.outq.le
  refine ⟨_, _, _, rfl, ?_, rfl, ?_, rfl, ?_, ?_⟩
  · rw [isEmpty_size, hi]
  · rw [isEmpty_size, ← ho]
  · rw [isEmpty_size]
    rw [decide_eq_decide]
    constructor
    · intro h1
      by_cases h0 : 0 < d.more.size
      · have := h.f h0; omega
      · omega
    · intro h1; omega
  · rw [← ho]
theorem SameB.blocks {d d' : LD} (h : SameB d d') (b i : Nat) : d'.blocks b i ↔ d.blocks b i := by
  obtain ⟨h1, h2, h3, h4, _⟩ := h
  unfold LD.blocks
  rw [h1, h2, h3, h4]
theorem SameB.trans {d d' d'' : LD} (h : SameB d d') (h2 : SameB d' d'') : SameB d d'' :=
  ⟨h2.1.trans h.1, h2.2.1.trans h.2.1, h2.2.2.1.trans h.2.2.1, h2.2.2.2.1.trans h.2.2.2.1, h2.2.2.2.2.trans h.2.2.2.2⟩
set_option maxRecDepth 100000 in
set_option maxHeartbeats 4000000 in
theorem lplays_main {w : World} {A : Option Addr} {len cap most : Nat} {l : List GAct} (h : Acts w A len l) (hl : len ≤ 60) (hs : l.all short = true) (hm : most ≤ 2000) :
    Calls Try.prog 7 #[.int .i64 most, .slice A len cap] w fun e w' => e = .returned (.bool true) ∧ Below w.heap.size w w' := by
  have H := Lib.hid h
  have HS := Lib.hid hs
  clear h hs
  have m0 : decide ((most : Int) < 0) = false := by simp
  have m1 : decide ((2000 : Int) < (most : Int)) = false := by simp; omega
  go_enter Try.func7, Try.ntmps7
  go_wp2_with fail
  refine (lfew_any H.out hl).mono ?_
  rintro e wf ⟨rfl, bf⟩
  rw [HS.out]
  have BF := Lib.hid bf
  have bfz := bf.size
  clear bf
  go_wp2_with fail
  refine (lnew_at most (by omega) _).mono ?_
  rintro e w1 ⟨b, bi, gi, bo, go, rfl, l1, f1, b1⟩
  have L1 := Lib.hid l1
  have F1 := Lib.hid f1
  have B1 := Lib.hid b1
  have z1 := b1.size
  clear l1 f1 b1
  go_wp2_with fail
  rcases Nat.eq_zero_or_pos len with rfl | h0
  · refine wp_loop_rounds 1 ?_
    rw [rounds_succ]
    go_wp2_with fail
    refine (llives _).mono ?_
    rintro e w' ⟨rfl, hb2⟩
    go_wp2_with fail
    go_ret
    exact ⟨rfl, ((BF.out.trans (B1.out.mono bfz)).alloc (by omega) _).trans (hb2.mono (by simp; omega))⟩
  obtain ⟨b', off, rfl, hb, hc⟩ := H.out.cells h0
  have HC := Lib.hid hc
  clear hc
  go_loopw [42] (fun i wr => ∃ (k : Nat) (d : LD) (In Out : ByteArray), k ≤ len ∧ i = .int .i64 k ∧ Out.size ≤ 300 * k ∧ Pair wr b w1.heap.size d In Out ∧ SameB ⟨bi, gi, bo, go, most, [], [], ⟨#[]⟩, false, false⟩ d ∧ Below w.heap.size w wr) (fun i _ => len - (intOf i).toNat)
  case atStart =>
    refine ⟨0, ⟨bi, gi, bo, go, most, [], [], ⟨#[]⟩, false, false⟩, ⟨#[]⟩, ⟨#[]⟩, Nat.zero_le _, rfl, Nat.zero_le _, ⟨?_, Blk.new _ _ _, rfl, rfl, fun h => by cases h⟩, ⟨rfl, rfl, rfl, rfl, rfl⟩, ?_⟩
    · exact L1.out.far (P := fun _ => False) ((Touch.refl _ _).alloc _) (fun _ _ => id)
    · exact (BF.out.trans (B1.out.mono bfz)).alloc (by omega) _
  case round =>
    obtain ⟨k, d, In, Out, hk, rfl, hO, hp, hsb, hnx⟩ := hrel
    have HP := Lib.hid hp
    have HB := Lib.hid hsb
    have hrb := hp.r.lt
    have hmd := hsb.2.2.2.2
    clear hp hsb
    by_cases hlt : k < len
    · obtain ⟨a, ha, c1, c2, c3, f1, f2, f3, f4, f5⟩ := H.out.get hnx hlt
      have hz := hnx.size
      have hsh : a.text.size ≤ 300 := of_decide_eq_true (List.all_eq_true.1 HS.out a ha)
      go_wp2_with fail
      obtain ⟨W, hW⟩ : ∃ W, W = wr.alloc (.cells #[.int .i64 a.op, .int .i64 a.n, .string a.text] 64) := ⟨_, rfl⟩
      rw [← hW]
      have HPW := Lib.hid (show Pair W.drew b w1.heap.size d In Out by rw [hW]; exact HP.out.far (P := fun _ => False) ((Touch.refl _ _).alloc _).drew (fun _ _ => id) id)
      have HBW := Lib.hid (show Below w.heap.size w W.drew by rw [hW]; exact (hnx.alloc hz _).drew)
      have hcW0 : W.cell? ⟨wr.heap.size, 0, none⟩ = some (.int .i64 a.op) := by rw [hW]; exact (Blk.new _ _ _).cell 0
      have hcW1 : W.cell? ⟨wr.heap.size, 1, none⟩ = some (.int .i64 a.n) := by rw [hW]; exact (Blk.new _ _ _).cell 1
      have hcW2 : W.cell? ⟨wr.heap.size, 2, none⟩ = some (.string a.text) := by rw [hW]; exact (Blk.new _ _ _).cell 2
      clear hW
      refine wp_region_any (by kernel_rfl) ?_
      (try (change wpAny _ _ _ _ _ _ _ (World.drew _)))
      refine wpAny_take (i := 0) (v := ?v) rfl (by kernel_rfl) (by kernel_rfl) (by kernel_rfl) (fun _ _ _ h => h) (Or.inl ⟨by rfl, ?hy⟩) ?rest
      case hy => (intro w; go_simp; try with_reducible rfl)
      refine wpAny_ready (rs := [1]) (by kernel_rfl) (by simp) (AllReady.cons rfl (fun K hK => ?_) AllReady.nil)
      go_simp
      (try (refine hK _ _ ?_; clear hK K))
      refine wpAny_ready (rs := [2]) (by kernel_rfl) (by simp) (AllReady.cons rfl (fun K hK => ?_) AllReady.nil)
      go_simp
      (try (refine hK _ _ ?_; clear hK K))
      refine (act_any HPW.out a.op a.n a.text f3 f4 hsh (by omega)).mono ?_
      rintro e w2 ⟨rfl, d2, In2, Out2, p2, sb2, o2, t2⟩
      have b2 : Below w.heap.size w w2 := HBW.out.trans (t2.below (fun i hi h => by
        rcases h with h | h
        · have := F1.out i ((HB.out.blocks b i).1 h); omega
        · omega) HBW.out.size)
      obtain ⟨pp, q, r, T⟩ := p2.tells
      have hd2 := sb2.2.2.2.2
      have T1 := T.p2
      have T2 := T.q2
      have T3 : decide (Out2.size ≤ most) = r := by rw [← hmd, ← hd2]; exact T.r2
      have T4 : decide ((Out2.size : Int) ≤ (most : Int)) = r := by rw [← T3, decide_eq_decide]; omega
      have k0 : w2.cell? ⟨w1.heap.size, 0, none⟩ = some (.string In2) := p2.r.cell 0
      have k1 : w2.cell? ⟨w1.heap.size, 1, none⟩ = some (.string Out2) := p2.r.cell 1
      have k3 : w2.cell? ⟨w1.heap.size, 3, none⟩ = some (.bool d2.ended) := p2.r.cell 3
      have k4 : w2.cell? ⟨w1.heap.size, 4, none⟩ = some (.bool d2.shut) := p2.r.cell 4
      have LQ := Lib.hid (show ∀ n, IsL (w2.drewN n) b d2 from fun n => p2.l.far (P := fun _ => False) ((Touch.refl _ _).drewN n) (fun _ _ => id))
      have M2 := Lib.hid (show d2.more.size ≤ 4611686018427387903 by have := T.k1; omega)
      have TT := Lib.hid T
      have PI := Lib.hid p2.i
      have B2 := Lib.hid b2
      have P2 := Lib.hid p2
      have S2 := Lib.hid (HB.out.trans sb2)
      have O2 := Lib.hid o2
      clear T p2 b2 t2 sb2 o2
      refine hK _ _ ?_
      clear hK K
      obtain ⟨en, he⟩ : ∃ en, en = d2.ended := ⟨_, rfl⟩
      obtain ⟨sh, hsx⟩ : ∃ sh, sh = d2.shut := ⟨_, rfl⟩
      rw [← he] at k3
      rw [← hsx] at k4
      have HEN := Lib.hid he
      have HSH := Lib.hid hsx
      clear he hsx
      cases en <;> cases sh
      all_goals
        refine wpAny_tail3 (by kernel_rfl) (by kernel_rfl) (by kernel_rfl) ?_
        repeat go_big_quiet_step 
          ((first
          | (go_at_call 33; exact quietD (left_any (LQ.out _) In2 PI.out))
          | (go_at_call 34; exact quietS (dry_at (LQ.out _) _ (by rw [← HEN.out, ← TT.out.p1])))
          | (go_at_call 35; exact quietD (waits_at (LQ.out _) M2.out _ TT.out.k1))
          | (go_at_call 36; exact quietS (free_at (LQ.out _) _ TT.out.r1))
          | (go_at_call 37; exact quietD (over_at (LQ.out _) M2.out _ (by rw [← HSH.out, ← TT.out.q1])))
          | (go_at_call 38; exact quietS (live_at (LQ.out _) _ (by rw [← HSH.out])))))
        refine wpQuiet_nil ?_
        intro _ hw'
        obtain ⟨nq, hw''⟩ := hw'
        subst hw''
        go_wp2_with fail
        go_roundw
        case rel =>
          have o2 := O2.out
          exact ⟨k + 1, d2, In2, Out2, by omega, by go_num, by omega, P2.out.far (P := fun _ => False) ((Touch.refl _ _).drewN _) (fun _ _ => id) id, S2.out, B2.out.trans ⟨rfl, rfl, rfl, Nat.le_refl _, fun _ _ => rfl⟩⟩
        case measure => simp [intOf]; omega
    · go_wp2_with fail
      refine (llives _).mono ?_
      rintro e w' ⟨rfl, hb2⟩
      go_wp2_with fail
      go_ret
      exact ⟨rfl, hnx.trans (hb2.mono hnx.size)⟩
set_option maxHeartbeats 1000000 in
theorem lplays_low {w : World} {A : Option Addr} {len cap : Nat} {most : Int} (hm : most < 0) :
    Calls Try.prog 7 #[.int .i64 most, .slice A len cap] w fun e w' => e = .returned (.bool true) ∧ Below w.heap.size w w' := by
  have m0 : decide (most < 0) = true := by simpa using hm
  have m1 : decide (0 ≤ most) = false := by simp; omega
  go_enter Try.func7, Try.ntmps7
  go_wp2_with fail
  refine (lnew_low most hm _).mono ?_
  rintro e w' ⟨rfl, rfl⟩
  go_wp2_with fail
  refine (llives _).mono ?_
  rintro e w' ⟨rfl, hb2⟩
  go_wp2_with fail
  go_ret
  exact ⟨rfl, hb2⟩
set_option maxHeartbeats 1000000 in
theorem lplays_high {w : World} {A : Option Addr} {len cap : Nat} {most : Int} (hm : 65536 < most) :
    Calls Try.prog 7 #[.int .i64 most, .slice A len cap] w fun e w' => e = .returned (.bool true) ∧ Below w.heap.size w w' := by
  have m0 : decide (most < 0) = false := by simp; omega
  have m1 : decide (0 ≤ most) = true := by simp; omega
  have m2 : decide (2000 < most) = true := by simp; omega
  have m3 : decide (most ≤ 65536) = false := by simp; omega
  go_enter Try.func7, Try.ntmps7
  go_wp2_with fail
  refine (lnew_high most hm _).mono ?_
  rintro e w' ⟨rfl, rfl⟩
  go_wp2_with fail
  refine (llives _).mono ?_
  rintro e w' ⟨rfl, hb2⟩
  go_wp2_with fail
  go_ret
  exact ⟨rfl, hb2⟩
set_option maxHeartbeats 1000000 in
theorem lplays_much {w : World} {A : Option Addr} {len cap : Nat} {most : Int} (hm : most ≤ 65536) (hm2 : 2000 < most) :
    Calls Try.prog 7 #[.int .i64 most, .slice A len cap] w fun e w' => e = .returned (.bool true) ∧ Below w.heap.size w w' := by
  have m0 : decide (most < 0) = false := by simp; omega
  have m1 : decide (0 ≤ most) = true := by simp; omega
  have m2 : decide (2000 < most) = true := by simp; omega
  have m3 : decide (most ≤ 65536) = true := by simp; omega
  go_enter Try.func7, Try.ntmps7
  go_wp2_with fail
  refine (llives _).mono ?_
  rintro e w' ⟨rfl, hb2⟩
  go_wp2_with fail
  go_ret
  exact ⟨rfl, hb2⟩
set_option maxHeartbeats 1000000 in
theorem lplays_many {w : World} {A : Option Addr} {len cap : Nat} {l : List GAct} {most : Int} (h : Acts w A len l) (hlm : len ≤ 9223372036854775807) (hf : (decide (len ≤ 60) && l.all short) = false) (hm : 0 ≤ most) (hm2 : most ≤ 2000) :
    Calls Try.prog 7 #[.int .i64 most, .slice A len cap] w fun e w' => e = .returned (.bool true) ∧ Below w.heap.size w w' := by
  have H := Lib.hid h
  have HF := Lib.hid hf
  clear h hf
  have m0 : decide (most < 0) = false := by simp; omega
  have m1 : decide (0 ≤ most) = true := by simp; omega
  have m2 : decide (2000 < most) = false := by simp; omega
  have m3 : decide (most ≤ 65536) = true := by simp; omega
  go_enter Try.func7, Try.ntmps7
  go_wp2_with fail
  refine (lfew_all H.out hlm).mono ?_
  rintro e wf ⟨rfl, bf⟩
  rw [HF.out]
  go_wp2_with fail
  refine (llives _).mono ?_
  rintro e w' ⟨rfl, hb2⟩
  go_wp2_with fail
  go_ret
  exact ⟨rfl, bf.trans (hb2.mono bf.size)⟩
theorem lplays_any {w : World} {A : Option Addr} {len cap : Nat} {l : List GAct} {most : Int} (h : Acts w A len l) (hlm : len ≤ 9223372036854775807) :
    Calls Try.prog 7 #[.int .i64 most, .slice A len cap] w fun e w' => e = .returned (.bool true) ∧ Below w.heap.size w w' := by
  by_cases h0 : most < 0
  · exact lplays_low h0
  by_cases h1 : 65536 < most
  · exact lplays_high h1
  by_cases h2 : 2000 < most
  · exact lplays_much (by omega) h2
  cases hf : (decide (len ≤ 60) && l.all short) with
  | false => exact lplays_many h hlm hf (by omega) (by omega)
  | true =>
    rw [Bool.and_eq_true, decide_eq_true_eq] at hf
    obtain ⟨m, rfl⟩ := Int.eq_ofNat_of_zero_le (show 0 ≤ most by omega)
    exact lplays_main h hf.1 hf.2 (by omega)
end Go.Proofs.Ytmkjkodblincbaa
