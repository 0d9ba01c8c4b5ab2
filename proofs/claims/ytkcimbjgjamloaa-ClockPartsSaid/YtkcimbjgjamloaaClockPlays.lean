/- ClockPlays: lives, and the walk. -/
import Derived.Test.YtkcimbjgjamloaaTick
import Derived.Test.YtkcimbjgjamloaaDueR
import Derived.Test.YtkcimbjgjamloaaOpenClk
import Derived.Test.YtkcimbjgjamloaaHeld
namespace Go.Proofs.Ytkcimbjgjamloaa
open Go.RowKit Go.Maps Clk
theorem isame_self (v v' : Value) (l : List Int) (w : World) (h : Nums w v l) (h' : Nums w v' l) (hz : l.length ≤ 1000000000) : Calls Try.prog 23 #[v, v'] w fun e w' => e = .returned (.bool true) ∧ Below w.heap.size w w' := by
  have := isame_any v v' l l w h h' hz hz
  rw [decide_eq_true rfl] at this
  exact this
theorem due_one : dueIds [(1, 5), (2, 3)] 3 = [2] ∧ rest [(1, 5), (2, 3)] 3 = [(1, 5)] := by simp [dueIds, dueRows, rest, isDue]
theorem due_two : dueIds [(1, 5)] 5 = [1] := by simp [dueIds, dueRows, isDue]
theorem clock_below {w w1 : World} {g b n : Nat} {now : Int} {l : List Rw} (h : Clock w g b n now l) (hb : Below w.heap.size w w1) : Clock w1 g b n now l := h.touch (P := fun _ => False) (Touch.of_below hb) id id
theorem turn_below {w wr w1 : World} {g b : Nat} (hu : Below w.heap.size w wr) (ht : Touch (fun j => j = g ∨ j = b) wr w1) (hg : w.heap.size ≤ g) (hb : w.heap.size ≤ b) : Below w.heap.size w w1 := hu.trans (ht.below (fun k _ hk => by omega) hu.size)
theorem turn_one {w wr w1 : World} {b : Nat} (hu : Below w.heap.size w wr) (ht : Touch (fun j => j = b) wr w1) (hb : w.heap.size ≤ b) : Below w.heap.size w w1 := hu.trans (ht.below (fun k _ hk => by omega) hu.size)
theorem nums_one (w : World) (x : Int) (t : TypeId) : Nums (w.alloc (.cells #[.int .i64 x] t)) (.slice (some ⟨w.heap.size, 0, none⟩) 1 1) [x] := by
  refine ⟨_, _, rfl, fun i hi => ⟨w.heap.size, 0, rfl, ?_⟩⟩
  have : i = 0 := by simpa using hi
  subst this
  exact (Blk.new w #[.int .i64 x] t).cell 0
set_option maxRecDepth 100000 in
theorem lives41 (w : World) : Calls Try.prog 15 #[] w fun e w' => e = .returned (.bool true) ∧ Below w.heap.size w w' := by
  go_enter Try.func15, Try.ntmps15
  go_wp2_with (go_at_call 14; refine (new_some 0 (by decide) (by decide) _).mono ?_)
  rintro e w1 ⟨g, b, rfl, hck, hb1, hg1, hbel⟩
  have H1 := Lib.hid (And.intro hck (And.intro hb1 (And.intro hg1 hbel)))
  clear hck hb1 hg1 hbel
  go_wp2_with fail
  refine (set_any H1.out.1 1 5 (by decide) (by decide) (by decide) (by decide) (by decide)).mono ?_
  rintro e w2 ⟨rfl, hck, ht⟩
  have H2 := Lib.hid (And.intro hck (turn_one H1.out.2.2.2 ht H1.out.2.1))
  clear hck ht
  go_wp2_with fail
  refine (set_any H2.out.1 2 3 (by decide) (by decide) (by decide) (by decide) (by decide)).mono ?_
  rintro e w3 ⟨rfl, hck, ht⟩
  have H3 := Lib.hid (And.intro hck (turn_one H2.out.2 ht H1.out.2.1))
  clear hck ht
  have r1 : rest (without (without [] 1 ++ [(1, 0 + withinZ 5)]) 2 ++ [(2, 0 + withinZ 3)]) (0 + withinZ 3) = [(1, 5)] := due_one.2
  have r2 : dueIds (without (without [] 1 ++ [(1, 0 + withinZ 5)]) 2 ++ [(2, 0 + withinZ 3)]) (0 + withinZ 3) = [2] := due_one.1
  have R1 := Lib.hid (And.intro r1 r2)
  clear r1 r2
  go_wp2_with fail
  refine (tick_any H3.out.1 (by unfold Clk.One; decide) 3 (by decide) (by decide) (by decide)).mono ?_
  rintro e w4 ⟨v1, rfl, hn, hck, ht⟩
  rw [R1.out.1] at hck
  rw [R1.out.2] at hn
  have H4 := Lib.hid (And.intro hck (And.intro (turn_below H3.out.2 ht H1.out.2.2.1 H1.out.2.1) hn))
  clear hck ht hn
  go_wp2_with fail
  refine (tick_any H4.out.1 (by unfold Clk.One; decide) 2 (by decide) (by decide) (by decide)).mono ?_
  rintro e w5 ⟨v2, rfl, hn, hck, ht⟩
  have hgl : g < w3.heap.size := H3.out.1.c.lt
  have hbl : b < w3.heap.size := H3.out.1.lt
  have hn1 : NumsB w3.heap.size w5 v1 [2] := H4.out.2.2.touch ht (fun j hj => by omega)
  have hd : dueIds [(1, 5)] (0 + withinZ 3 + withinZ 2) = [1] := due_two
  rw [hd] at hn
  have H5 := Lib.hid (And.intro hck (And.intro (turn_below H4.out.2.1 ht H1.out.2.2.1 H1.out.2.1) (And.intro hn1.nums hn.nums)))
  clear hck ht hn hn1 hd hgl hbl
  go_wp2_with fail
  obtain ⟨V6, hV6⟩ : ∃ V, V = w5.alloc (.cells #[.int .i64 2] 3) := ⟨_, rfl⟩
  have K6 : Hid (Below w5.heap.size w5 V6 ∧ Nums V6 (.slice (some ⟨w5.heap.size, 0, none⟩) 1 1) [2]) := by
    show _ ∧ _
    rw [hV6]
    exact ⟨(Below.refl _ _).alloc (Nat.le_refl _) _, nums_one _ _ _⟩
  rw [← hV6]
  clear hV6
  refine (isame_any v1 _ [2] [2] V6 (H5.out.2.2.1.below K6.out.1) K6.out.2 (by decide) (by decide)).mono ?_
  rintro e w6 ⟨rfl, hb6⟩
  have K7 := Lib.hid (H5.out.2.1.trans ((K6.out.1.trans (hb6.mono K6.out.1.size)).mono H5.out.2.1.size))
  have N7 := Lib.hid ((H5.out.2.2.2.below K6.out.1).below hb6)
  have C7 := Lib.hid (clock_below (clock_below H5.out.1 K6.out.1) hb6)
  clear hb6
  have e1 : decide (([2] : List Int) = [2]) = true := by decide
  rw [e1]
  go_wp2_with fail
  obtain ⟨V8, hV8⟩ : ∃ V, V = w6.alloc (.cells #[.int .i64 1] 3) := ⟨_, rfl⟩
  have K8 : Hid (Below w6.heap.size w6 V8 ∧ Nums V8 (.slice (some ⟨w6.heap.size, 0, none⟩) 1 1) [1]) := by
    show _ ∧ _
    rw [hV8]
    exact ⟨(Below.refl _ _).alloc (Nat.le_refl _) _, nums_one _ _ _⟩
  rw [← hV8]
  clear hV8 e1
  refine (isame_any v2 _ [1] [1] V8 (N7.out.below K8.out.1) K8.out.2 (by decide) (by decide)).mono ?_
  rintro e w9 ⟨rfl, hb9⟩
  have K9 := Lib.hid (K7.out.trans ((K8.out.1.trans (hb9.mono K8.out.1.size)).mono K7.out.size))
  have C9 := Lib.hid (clock_below (clock_below C7.out K8.out.1) hb9)
  clear hb9
  have e1 : decide (([1] : List Int) = [1]) = true := by decide
  rw [e1]
  go_wp2_with fail
  refine (now_any C9.out).mono ?_
  rintro e w10 ⟨rfl, rfl⟩
  have e2 : (0 : Int) + withinZ 3 + withinZ 2 = 5 := by decide
  rw [e2]
  go_wp2_with fail
  go_ret
  exact ⟨rfl, K9.out⟩
/-- The rounds of ClockPlays, in plain words. -/
structure PlayP (k n : Nat) (nw : Int) (L : List Rw) : Prop where
  one : One L
  n1 : n ≤ k
  len : L.length ≤ k
  lo : -281474976710656 ≤ nw
  hi : nw ≤ 281474976710656 + k * 1073741824
  rows : ∀ p ∈ L, -281474976710656 ≤ p.2 ∧ p.2 ≤ 281474976710656 + k * 1073741824
theorem without_len (L : List Rw) (id : Int) : (without L id).length ≤ L.length := List.length_filter_le _ _
theorem PlayP.put {k n : Nat} {nw : Int} {L : List Rw} (h : PlayP k n nw L) (id t : Int) : PlayP (k + 1) (n + 1) nw (without L id ++ [(id, nw + withinZ t)]) := by
  have hr := withinZ_range t
  have h1 := h.lo
  have h2 := h.hi
  refine ⟨h.one.put id _, by have := h.n1; omega, by have := h.len; have := without_len L id; simp; omega, h1, by omega, fun p hp => ?_⟩
  rcases List.mem_append.1 hp with hp | hp
  · have := h.rows p (mem_without.1 hp).1
    omega
  · have : p = (id, nw + withinZ t) := by simpa using hp
    subst this
    dsimp only
    omega
theorem PlayP.del {k n : Nat} {nw : Int} {L : List Rw} (h : PlayP k n nw L) (id : Int) : PlayP (k + 1) n nw (without L id) :=
  ⟨h.one.without id, by have := h.n1; omega, by have := h.len; have := without_len L id; omega, h.lo, by have := h.hi; omega, fun p hp => by have := h.rows p (mem_without.1 hp).1; omega⟩
theorem PlayP.stay {k n : Nat} {nw : Int} {L : List Rw} (h : PlayP k n nw L) : PlayP (k + 1) n nw L :=
  ⟨h.one, by have := h.n1; omega, by have := h.len; omega, h.lo, by have := h.hi; omega, fun p hp => by have := h.rows p hp; omega⟩
theorem PlayP.tick {k n : Nat} {nw : Int} {L : List Rw} (h : PlayP k n nw L) (t : Int) : PlayP (k + 1) n (nw + withinZ t) (rest L (nw + withinZ t)) := by
  have hr := withinZ_range t
  have h1 := h.lo
  have h2 := h.hi
  refine ⟨h.one.filter _, by have := h.n1; omega, by have := h.len; have := List.length_filter_le (fun p => !isDue (nw + withinZ t) p) L; unfold rest; omega, by omega, by omega, fun p hp => by have := h.rows p (rest_mem.1 hp).1; omega⟩
/-- A round of ClockPlays, in memory: the clock (rows Lc), the reference's rows L. -/
structure PlayW (w : World) (B g b n : Nat) (nw : Int) (Lc L : List Rw) (v6 : Value) (wr : World) : Prop where
  ck : Clock wr g b n nw Lc
  rs : RwsB B wr v6 L
  gB : g < B
  bB : b < B
  wg : w.heap.size ≤ g
  wb : w.heap.size ≤ b
  u : Below w.heap.size w wr
  sz : B ≤ wr.heap.size
section
variable {w wr w1 : World} {B g b n n' : Nat} {nw nw' : Int} {Lc Lc' L L' : List Rw} {v6 v6' : Value}
theorem PlayW.below (h : PlayW w B g b n nw Lc L v6 wr) (hb : Below wr.heap.size wr w1) : PlayW w B g b n nw Lc L v6 w1 :=
  ⟨clock_below h.ck hb, h.rs.below hb, h.gB, h.bB, h.wg, h.wb, h.u.trans (hb.mono h.u.size), Nat.le_trans h.sz hb.size⟩
theorem PlayW.turn (h : PlayW w B g b n nw Lc L v6 wr) (ht : Touch (fun j => j = g ∨ j = b) wr w1) (hc : Clock w1 g b n' nw' Lc') : PlayW w B g b n' nw' Lc' L v6 w1 :=
  ⟨hc, h.rs.touch ht (fun j hj => by have := h.gB; have := h.bB; omega), h.gB, h.bB, h.wg, h.wb, h.u.trans (ht.below (fun k _ hk => by have := h.wg; have := h.wb; omega) h.u.size), Nat.le_trans h.sz ht.size⟩
theorem PlayW.rows (h : PlayW w B g b n nw Lc L v6 wr) (hr : RwsB B wr v6' L') : PlayW w B g b n nw Lc L' v6' wr :=
  ⟨h.ck, hr, h.gB, h.bB, h.wg, h.wb, h.u, h.sz⟩
theorem PlayW.grown {row : Option Nat} {ob : Obj} (h : PlayW w B g b n nw Lc L v6 wr) (hg : (wr.alloc ob).grownBy w1 row) (hrow : ∀ k, row = some k → B ≤ k) (hr : RwsB B w1 v6' L') : PlayW w B g b n nw Lc L' v6' w1 := by
  have ht : Touch (fun j => B ≤ j) wr w1 := ((Touch.refl (fun j => B ≤ j) wr).alloc ob).trans (Touch.of_grown hg hrow)
  exact ⟨h.ck.touch ht (by have := h.gB; omega) (by have := h.bB; omega), hr, h.gB, h.bB, h.wg, h.wb, h.u.trans (ht.below (fun k _ hk => by have := h.wg; have := h.gB; omega) h.u.size), Nat.le_trans h.sz ht.size⟩
end
set_option maxRecDepth 100000 in
set_option maxHeartbeats 8000000 in
theorem plays_any (v : Value) (l : List A3) (now : Int) (w : World) (h : Acts3 w v l) (hn1 : -9223372036854775808 ≤ now) (hn2 : now ≤ 9223372036854775807) (hlz : l.length ≤ 9223372036854775807) :
    Calls Try.prog 4 #[.int .i64 now, v] w fun e w' => e = .returned (.bool true) ∧ Below w.heap.size w w' := by
  obtain ⟨p, c, rfl, hc⟩ := h
  obtain ⟨i0, hi, hz0, hzz1, hzz2⟩ := info_parts info_row
  have HLV := Lib.hid (fun W => lives41 W)
  by_cases ho1 : now < -281474976710656
  · have HN := Lib.hid (fun W => new_none now (Or.inl ho1) W)
    clear hc
    go_enter Try.func4, Try.ntmps4
    go_wp2_with (first | (go_at_call 14; refine (HN.out _).mono ?_; rintro e w1 ⟨rfl, rfl⟩) | (go_at_call 15; refine (HLV.out _).mono ?_; rintro e w1 ⟨rfl, hb⟩; have HB := Lib.hid hb; clear hb))
    go_ret
    exact ⟨rfl, HB.out⟩
  by_cases ho2 : 281474976710656 < now
  · have HN := Lib.hid (fun W => new_none now (Or.inr ho2) W)
    have hd1 : decide (now < -281474976710656) = false := by simpa using ho1
    clear hc
    go_enter Try.func4, Try.ntmps4
    go_wp2_with (first | (go_at_call 14; refine (HN.out _).mono ?_; rintro e w1 ⟨rfl, rfl⟩) | (go_at_call 15; refine (HLV.out _).mono ?_; rintro e w1 ⟨rfl, hb⟩; have HB := Lib.hid hb; clear hb))
    go_ret
    exact ⟨rfl, HB.out⟩
  have hlo : -281474976710656 ≤ now := by omega
  have hhi : now ≤ 281474976710656 := by omega
  have HNS := Lib.hid (fun W => new_some now hlo hhi W)
  have hdlo : decide (now < -281474976710656) = false := by simpa using ho1
  have hdhi : decide (281474976710656 < now) = false := by simpa using ho2
  clear ho1 ho2
  obtain ⟨len, hlen⟩ : ∃ x, x = l.length := ⟨_, rfl⟩
  have HLEN := Lib.hid hlen
  rw [← hlen] at hlz ⊢
  have HC := Lib.hid hc
  clear hlen hc
  by_cases hbig : 100 < len
  · have hbi : (100 : Int) < (len : Int) := by omega
    go_enter Try.func4, Try.ntmps4
    go_wp2_with (go_at_call 14; refine (HNS.out _).mono ?_)
    rintro e w1 ⟨g, b, rfl, hck, hb1, hg1, hbel⟩
    have H1 := Lib.hid hbel
    clear hck hb1 hg1 hbel
    go_wp2_with (go_at_call 15; refine (HLV.out _).mono ?_; rintro e w2 ⟨rfl, hb⟩; have HB := Lib.hid hb; clear hb)
    go_ret
    exact ⟨rfl, H1.out.trans (HB.out.mono H1.out.size)⟩
  have hsm : (len : Int) ≤ 100 := by omega
  have hlz2 : len ≤ 100 := by omega
  clear hbig
  have hd100 : decide ((100 : Int) < (len : Int)) = false := by simpa using hsm
  go_enter Try.func4, Try.ntmps4
  go_wp2_with (go_at_call 14; refine (HNS.out _).mono ?_)
  rintro e w1 ⟨g, b, rfl, hck, hb1, hg1, hbel⟩
  obtain ⟨B, hB⟩ : ∃ B, B = w1.heap.size := ⟨_, rfl⟩
  have hP0 : PlayW w B g b 0 now [] [] (.slice (some ⟨w1.heap.size, 0, none⟩) 0 0) (w1.alloc (.cells #[] 44)) :=
    ⟨clock_below hck ((Below.refl _ _).alloc (Nat.le_refl _) _), ⟨_, _, rfl, fun i hi => absurd hi (Nat.not_lt_zero _)⟩, by rw [hB]; exact hck.c.lt, by rw [hB]; exact hck.lt, hg1, hb1, hbel.alloc hbel.size _, by rw [hB]; simp⟩
  have hQ0 : PlayP 0 0 now [] := ⟨by unfold Clk.One; decide, Nat.le_refl _, Nat.le_refl _, hlo, by omega, fun p hp => by cases hp⟩
  have H0 := Lib.hid (And.intro hP0 hQ0)
  clear hck hb1 hg1 hbel hP0 hQ0 hB
  go_wp2_with fail
  go_loopw [0, 6, 45] (fun s0 s6 s45 wr => ∃ (k n : Nat) (nw : Int) (L : List Rw), k ≤ len ∧ s45 = .int .i64 k ∧ s0 = .int .i64 nw ∧ PlayW w B g b n nw L L s6 wr ∧ PlayP k n nw L) (fun _ _ s45 _ => len - (intOf s45).toNat)
  case atStart => exact ⟨0, 0, now, [], Nat.zero_le _, rfl, rfl, H0.out.1, H0.out.2⟩
  case round =>
    obtain ⟨k, n, nw, L, hk, rfl, rfl, hP, hQ⟩ := hrel
    have HP := Lib.hid hP
    have HQ := Lib.hid hQ
    clear hP hQ H0
    by_cases hkl : k < len
    · obtain ⟨hfit, b', off, hp, a0, a1, a2⟩ := HC.out k (by rw [← HLEN.out]; exact hkl)
      subst hp
      obtain ⟨x, hx⟩ : ∃ x, x = l[k]'(by rw [← HLEN.out]; exact hkl) := ⟨_, rfl⟩
      rw [← hx] at hfit a0 a1 a2
      clear hx
      obtain ⟨dd, id, t⟩ := x
      have hbl := World.block_lt_of_cell? w _ a0
      have e0 : wr.cell? ⟨b', off + k * 3, none⟩ = some (.int .i64 dd) := (HP.out.u.cell (p := ⟨b', off + k * 3, none⟩) hbl).trans a0
      have e1 : wr.cell? ⟨b', off + k * 3 + 1, none⟩ = some (.int .i64 id) := (HP.out.u.cell (p := ⟨b', off + k * 3 + 1, none⟩) hbl).trans a1
      have e2 : wr.cell? ⟨b', off + k * 3 + 2, none⟩ = some (.int .i64 t) := (HP.out.u.cell (p := ⟨b', off + k * 3 + 2, none⟩) hbl).trans a2
      obtain ⟨⟨hd1, hd2⟩, ⟨hi1, hi2⟩, ht1, ht2⟩ := hfit
      dsimp only at hd1 hd2 hi1 hi2 ht1 ht2
      clear a0 a1 a2 hbl
      have hk0 : (0 : Int) ≤ (k : Int) := by omega
      have hki : (k : Int) < (len : Int) := by omega
      have hnlo := HQ.out.lo
      have hnhi : nw ≤ 1125899906842624 := by have := HQ.out.hi; omega
      have hn1000 : n ≤ 1000 := by have := HQ.out.n1; omega
      have hl1000 : L.length ≤ 1000 := by have := HQ.out.len; omega
      have HA := Lib.hid (HP.out.below ((Below.refl wr.heap.size wr).alloc (Nat.le_refl _) (.cells #[.int .i64 dd, .int .i64 id, .int .i64 t] 39)))
      have HAB := Lib.hid (Blk.new wr #[.int .i64 dd, .int .i64 id, .int .i64 t] 39)
      have hrl : ∀ p ∈ L, -1125899906842624 ≤ p.2 ∧ p.2 ≤ 1125899906842624 := fun p hp => by have := HQ.out.rows p hp; omega
      have HRL := Lib.hid hrl
      clear hrl
      have hsum : IntKind.i64.wrap (nw + withinZ t) = nw + withinZ t := IntWalk.i64_in _ (by have := withinZ_range t; omega)
      by_cases c1 : dd = 1
      · subst c1
        go_wp2_with fail
        refine (set_any HA.out.ck id t hi1 hi2 (by omega) hnhi (by omega)).mono ?_
        rintro e w2 ⟨rfl, hck, ht⟩
        have ht' : Touch (fun j => j = g ∨ j = b) _ w2 := ht.mono (fun _ _ h => Or.inr h)
        have hA2 := HA.out.turn ht' hck
        have hB2 := HAB.out.touch ht (by have := HA.out.bB; have := HP.out.sz; omega)
        have HA2 := Lib.hid (And.intro hA2 hB2)
        have hwm := fun W (h : Rws W u6 L) => rwithout_any u6 L id W h hl1000
        have HWM := Lib.hid hwm
        obtain ⟨tz, htz⟩ : ∃ z, z = withinZ t := ⟨_, rfl⟩
        have HTZ := Lib.hid htz
        rw [← htz] at hsum
        have q1 : w2.cell? ⟨wr.heap.size, 1, none⟩ = some (.int .i64 id) := hB2.cell 1
        have q2 : w2.cell? ⟨wr.heap.size, 2, none⟩ = some (.int .i64 t) := hB2.cell 2
        clear hck ht ht' hA2 hB2 hwm htz
        go_wp2_with fail
        refine wp_region_at (S := fun v => Blk v wr.heap.size #[.int .i64 1, .int .i64 id, .int .i64 t] 39) (by kernel_rfl) ?_
        rintro V0 hV0
        have h0 : Blk V0 wr.heap.size #[.int .i64 1, .int .i64 id, .int .i64 t] 39 := by rw [hV0]; exact HA2.out.2
        have HV0 : Hid (PlayW w B g b (n + 1) nw (without L id ++ [(id, nw + withinZ t)]) L u6 V0) := by
          rw [hV0]
          exact HA2.out.1.below (⟨rfl, rfl, rfl, Nat.le_refl _, fun _ _ => rfl⟩ : Below w2.heap.size w2 w2.drew)
        have HVA := Lib.hid h0.lt
        clear hV0
        refine wpAnyH_take (i := 0) (v := u6) rfl (by kernel_rfl) (by kernel_rfl) (by kernel_rfl) (fun _ _ _ h => h) (Or.inl ⟨by kernel_rfl, ?hy10⟩) h0 ?rest10
        case hy10 =>
          intro v hv
          clear hv
          go_simp
        (try simp only [Act.put, List.setIfInBounds_toArray, List.set_cons_zero, List.set_cons_succ])
        refine wpAnyH_take (i := 1) (v := .pointer (some ⟨wr.heap.size, 1, none⟩)) rfl (by kernel_rfl) (by kernel_rfl) (by kernel_rfl) (fun _ _ _ h => h) (Or.inl ⟨by kernel_rfl, ?hy1⟩) h0 ?rest1
        case hy1 =>
          intro v hv
          clear hv
          go_simp
        (try simp only [Act.put, List.setIfInBounds_toArray, List.set_cons_zero, List.set_cons_succ])
        refine wpAnyH_take (i := 2) (v := .int .i64 id) rfl (by kernel_rfl) (by kernel_rfl) (by kernel_rfl) (fun _ _ _ h => h) (Or.inl ⟨by kernel_rfl, ?hy2⟩) h0 ?rest2
        case hy2 =>
          intro v hv
          have q := hv.cell 1
          simp at q
          clear hv
          go_simp
        (try simp only [Act.put, List.setIfInBounds_toArray, List.set_cons_zero, List.set_cons_succ])
        refine wpAnyH_take (i := 4) (v := .pointer (some ⟨wr.heap.size, 1, none⟩)) rfl (by kernel_rfl) (by kernel_rfl) (by kernel_rfl) (fun _ _ _ h => h) (Or.inl ⟨by kernel_rfl, ?hy3⟩) h0 ?rest3
        case hy3 =>
          intro v hv
          clear hv
          go_simp
        (try simp only [Act.put, List.setIfInBounds_toArray, List.set_cons_zero, List.set_cons_succ])
        refine wpAnyH_take (i := 5) (v := .int .i64 id) rfl (by kernel_rfl) (by kernel_rfl) (by kernel_rfl) (fun _ _ _ h => h) (Or.inl ⟨by kernel_rfl, ?hy4⟩) h0 ?rest4
        case hy4 =>
          intro v hv
          have q := hv.cell 1
          simp at q
          clear hv
          go_simp
        (try simp only [Act.put, List.setIfInBounds_toArray, List.set_cons_zero, List.set_cons_succ])
        refine wpAnyH_take (i := 6) (v := .int .i64 nw) rfl (by kernel_rfl) (by kernel_rfl) (by kernel_rfl) (fun _ _ _ h => h) (Or.inl ⟨by kernel_rfl, ?hy5⟩) h0 ?rest5
        case hy5 =>
          intro v hv
          clear hv
          go_simp
        (try simp only [Act.put, List.setIfInBounds_toArray, List.set_cons_zero, List.set_cons_succ])
        refine wpAnyH_take (i := 7) (v := .pointer (some ⟨wr.heap.size, 2, none⟩)) rfl (by kernel_rfl) (by kernel_rfl) (by kernel_rfl) (fun _ _ _ h => h) (Or.inl ⟨by kernel_rfl, ?hy6⟩) h0 ?rest6
        case hy6 =>
          intro v hv
          clear hv
          go_simp
        (try simp only [Act.put, List.setIfInBounds_toArray, List.set_cons_zero, List.set_cons_succ])
        refine wpAnyH_take (i := 8) (v := .int .i64 t) rfl (by kernel_rfl) (by kernel_rfl) (by kernel_rfl) (fun _ _ _ h => h) (Or.inl ⟨by kernel_rfl, ?hy7⟩) h0 ?rest7
        case hy7 =>
          intro v hv
          have q := hv.cell 2
          simp at q
          clear hv
          go_simp
        (try simp only [Act.put, List.setIfInBounds_toArray, List.set_cons_zero, List.set_cons_succ])
        refine wpAnyH_ready (rs := [3]) (by kernel_rfl) (by simp) ?_
        refine AllReadyH.cons rfl (fun K hK => ?_) AllReadyH.nil
        go_simp
        refine (HWM.out _ HV0.out.rs.rws).mono ?_
        rintro e V1 ⟨v3, rfl, ho, hb⟩
        have h1 := h0.call hb
        have HV1 := Lib.hid (And.intro (HV0.out.below hb) ho)
        have hz1 := HV0.out.sz
        have HVS := Lib.hid hb.size
        clear ho hb h0
        refine hK _ _ h1 (fun _ => ?_)
        clear hK K
        (try simp only [Act.put, List.setIfInBounds_toArray, List.set_cons_zero, List.set_cons_succ])
        refine wpAnyH_ready (rs := [9]) (by kernel_rfl) (by simp) ?_
        refine AllReadyH.cons rfl (fun K hK => ?_) AllReadyH.nil
        go_simp
        refine (rwithin_any t _).mono ?_
        rintro e V2 ⟨rfl, rfl⟩
        rw [← HTZ.out]
        refine hK _ _ h1 (fun _ => ?_)
        clear hK K
        (try simp only [Act.put, List.setIfInBounds_toArray, List.set_cons_zero, List.set_cons_succ])
        refine wpAnyH_take (i := 10) (v := .int .i64 (nw + tz)) rfl (by kernel_rfl) (by kernel_rfl) (by kernel_rfl) (fun _ _ _ h => h) (Or.inl ⟨by kernel_rfl, ?hy8⟩) h1 ?rest8
        case hy8 =>
          intro v hv
          clear hv
          go_simp
        (try simp only [Act.put, List.setIfInBounds_toArray, List.set_cons_zero, List.set_cons_succ])
        refine wpAnyH_take (i := 11) (v := .agg #[.int .i64 id, .int .i64 (nw + tz)]) rfl (by kernel_rfl) (by kernel_rfl) (by kernel_rfl) (fun _ _ _ h => h) (Or.inl ⟨by kernel_rfl, ?hy9⟩) h1 ?rest9
        case hy9 =>
          intro v hv
          clear hv
          go_simp
        (try simp only [Act.put, List.setIfInBounds_toArray, List.set_cons_zero, List.set_cons_succ])
        refine wpAnyH_ready (rs := [12]) (by kernel_rfl) (by simp) ?_
        refine AllReadyH.cons rfl (fun K hK => ?_) AllReadyH.nil
        go_simp
        have h2 := h1.alloc (.cells #[.int .i64 id, .int .i64 (nw + tz)] 44)
        refine hK _ _ h2 (fun _ => ?_)
        clear hK K
        (try simp only [Act.put, List.setIfInBounds_toArray, List.set_cons_zero, List.set_cons_succ])
        refine wpAnyH_ready (rs := [13]) (by kernel_rfl) (by simp) ?_
        refine AllReadyH.cons rfl (fun K hK => ?_) AllReadyH.nil
        refine step_append_lies _ rfl _ _ _ rfl V0.heap.size 44 i0 _ 2 16 Try.underlying37 hi hz0 hzz1 hzz2 rfl (by omega) _ _ _ rfl (HV1.out.2.alloc _) ⟨V1.heap.size, 0, none⟩ 1 1 [.int .i64 id, .int .i64 (nw + tz)] rfl rfl (World.news_of_block (cs := #[.int .i64 id, .int .i64 (nw + tz)]) (t := 44) (fr := (0, 0)) (heap_alloc_new V1 _)) (by simp [Value.oneCell']) (by omega) (by have := without_len L id; unfold maxLen; omega) (by have := without_len L id; omega) (by have := HVS.out; simp; omega) _ rfl ?_
        intro gg cap V3 hown hgrow _ _
        have hlo := (HV1.out.2.alloc (.cells #[.int .i64 id, .int .i64 (nw + tz)] 44)).lt
        have h3 : Blk V3 wr.heap.size #[.int .i64 1, .int .i64 id, .int .i64 t] 39 := (hgrow.block wr.heap.size h2.lt (fun e => by have := (hlo _ e.symm).1; have := HVA.out; omega)).trans h2
        have hrr : RwsB B V3 (.slice (some ⟨gg, 0, none⟩) ((without L id).length + 1) cap) (without L id ++ [(id, nw + tz)]) := by
          have e1 : (without L id ++ [(id, nw + tz)]).length = (without L id).length + 1 := by simp
          have := RwsB.of_own (l := without L id ++ [(id, nw + tz)]) (by rw [e1, flatR_append]; exact hown)
          (try rw [e1] at this)
          exact this.mono HV0.out.sz
        have HF := Lib.hid (HV1.out.1.grown hgrow (fun j hj => Nat.le_trans HV0.out.sz (hlo j hj).1) hrr)
        clear hown hgrow hlo hrr h1 h2
        refine hK _ _ h3 (fun _ => ?_)
        clear hK K
        (try simp only [Act.put, List.setIfInBounds_toArray, List.set_cons_zero, List.set_cons_succ])
        refine wpAnyH_ready (rs := [14]) (by kernel_rfl) (by simp) ?_
        refine AllReadyH.cons rfl (fun K hK => ?_) AllReadyH.nil
        go_simp
        refine hK _ _ h3 (fun _ => ?_)
        clear hK K
        (try simp only [Act.put, List.setIfInBounds_toArray, List.set_cons_zero, List.set_cons_succ])
        refine wpAnyH_done (by kernel_rfl) ?_ _
        go_wp2_with fail
        refine (now_any HF.out.ck).mono ?_
        rintro e w9 ⟨rfl, rfl⟩
        go_wp2_with fail
        go_roundw
        case rel => exact ⟨k + 1, n + 1, nw, _, by omega, by go_num, rfl, by have hf := HF.out; rw [HTZ.out] at hf; exact hf, HQ.out.put id t⟩
        case measure => simp [intOf]; omega
      by_cases c2 : dd = 2
      · subst c2
        go_wp2_with fail
        refine (stop_any HA.out.ck id hi1 hi2).mono ?_
        rintro e w2 ⟨rfl, hck, ht⟩
        have ht' : Touch (fun j => j = g ∨ j = b) _ w2 := ht.mono (fun _ _ h => Or.inr h)
        have hA2 := HA.out.turn ht' hck
        have hB2 := HAB.out.touch ht (by have := HA.out.bB; have := HP.out.sz; omega)
        have HA2 := Lib.hid (And.intro hA2 hB2)
        have q1 : w2.cell? ⟨wr.heap.size, 1, none⟩ = some (.int .i64 id) := hB2.cell 1
        clear hck ht ht' hA2 hB2
        go_wp2_with fail
        refine (rwithout_any _ L id _ HA2.out.1.rs.rws hl1000).mono ?_
        rintro e w3 ⟨v3, rfl, ho, hb⟩
        have HF := Lib.hid ((HA2.out.1.below hb).rows ((RwsB.of_own ho).mono HA2.out.1.sz))
        clear ho hb
        go_wp2_with fail
        refine (now_any HF.out.ck).mono ?_
        rintro e w9 ⟨rfl, rfl⟩
        go_wp2_with fail
        go_roundw
        case rel => exact ⟨k + 1, n, nw, _, by omega, by go_num, rfl, HF.out, HQ.out.del id⟩
        case measure => simp [intOf]; omega
      by_cases c3 : dd = 3
      · subst c3
        have hlv := left_any HA.out.ck id hi1 hi2 (by omega) hnhi HRL.out HQ.out.one
        have hrv := fun W (h : Rws W u6 L) => rleft_any u6 L id nw W h hl1000 (by omega) hnhi HRL.out
        cases ho : leftAt L id with
        | none =>
          rw [ho] at hlv hrv
          unfold leftV at hlv hrv
          have HLV2 := Lib.hid hlv
          have HRV2 := Lib.hid hrv
          clear hlv hrv ho
          go_wp2_with fail
          refine HLV2.out.mono ?_
          rintro e w2 ⟨rfl, rfl⟩
          go_wp2_with fail
          refine (HRV2.out _ HA.out.rs.rws).mono ?_
          rintro e w3 ⟨rfl, rfl⟩
          go_wp2_with fail
          refine (now_any HA.out.ck).mono ?_
          rintro e w9 ⟨rfl, rfl⟩
          go_wp2_with fail
          go_roundw
          case rel => exact ⟨k + 1, n, nw, _, by omega, by go_num, rfl, HA.out, HQ.out.stay⟩
          case measure => simp [intOf]; omega
        | some tt =>
          rw [ho] at hlv hrv
          unfold leftV at hlv hrv
          have HLV2 := Lib.hid hlv
          have HRV2 := Lib.hid hrv
          clear hlv hrv ho
          go_wp2_with fail
          refine HLV2.out.mono ?_
          rintro e w2 ⟨rfl, rfl⟩
          go_wp2_with fail
          refine (HRV2.out _ HA.out.rs.rws).mono ?_
          rintro e w3 ⟨rfl, rfl⟩
          go_wp2_with fail
          refine (now_any HA.out.ck).mono ?_
          rintro e w9 ⟨rfl, rfl⟩
          go_wp2_with fail
          go_roundw
          case rel => exact ⟨k + 1, n, nw, _, by omega, by go_num, rfl, HA.out, HQ.out.stay⟩
          case measure => simp [intOf]; omega
      have g1 : (dd == 1) = false := by rw [beq_eq_false_iff_ne]; exact c1
      have g2 : (dd == 2) = false := by rw [beq_eq_false_iff_ne]; exact c2
      have g3 : (dd == 3) = false := by rw [beq_eq_false_iff_ne]; exact c3
      clear c1 c2 c3
      obtain ⟨tz, htz⟩ : ∃ z, z = withinZ t := ⟨_, rfl⟩
      have HTZ := Lib.hid htz
      have HWI : Hid (∀ W, Calls Try.prog 18 #[.int .i64 t] W fun e w' => e = .returned (.int .i64 tz) ∧ W = w') := fun W => by rw [htz]; exact rwithin_any t W
      rw [← htz] at hsum
      clear htz
      go_wp2_with (go_at_call 18; refine (HWI.out _).mono ?_; rintro e' w' ⟨rfl, rfl⟩)
      refine (rdue_any B _ L (nw + tz) _ HA.out.rs HQ.out.one hl1000 HA.out.sz).mono ?_
      rintro e w2 ⟨u, v', rfl, hnu, hrs', hb⟩
      have HA2 := Lib.hid (And.intro (HA.out.below hb) (And.intro (HAB.out.call hb) (And.intro hrs' hnu)))
      have q2 : w2.cell? ⟨wr.heap.size, 2, none⟩ = some (.int .i64 t) := (HAB.out.call hb).cell 2
      clear hnu hrs' hb
      go_wp2_with fail
      refine (tick_any HA2.out.1.ck HQ.out.one t (by omega) hnhi hn1000).mono ?_
      rintro e w3 ⟨v1, rfl, hn1, hck, ht⟩
      have hA3 := HA2.out.1.turn ht hck
      have hrs3 := HA2.out.2.2.1.touch ht (fun j hj => by have := HA2.out.1.gB; have := HA2.out.1.bB; omega)
      have hnu3 := HA2.out.2.2.2.touch ht (fun j hj => by have := HA.out.gB; have := HA.out.bB; have := HA.out.sz; omega)
      rw [← HTZ.out] at hn1 hA3
      have HA3 := Lib.hid (hA3.rows hrs3)
      have HN3 := Lib.hid (And.intro hn1.nums hnu3.nums)
      have hdl : (dueIds L (nw + tz)).length ≤ 1000000000 := by
        unfold dueIds dueRows
        rw [List.length_map, List.length_mergeSort]
        have := List.length_filter_le (isDue (nw + tz)) L
        omega
      have HDL := Lib.hid hdl
      clear hn1 hck ht hA3 hrs3 hnu3 hdl
      go_wp2_with fail
      refine (isame_self v1 u _ w3 HN3.out.1 HN3.out.2 HDL.out).mono ?_
      rintro e w4 ⟨rfl, hb⟩
      have HA4 := Lib.hid (HA3.out.below hb)
      clear hb
      go_wp2_with fail
      refine (now_any HA4.out.ck).mono ?_
      rintro e w9 ⟨rfl, rfl⟩
      go_wp2_with fail
      go_roundw
      case rel =>
        have hq := HQ.out.tick t
        rw [← HTZ.out] at hq
        exact ⟨k + 1, n, nw + tz, _, by omega, by go_num, rfl, HA4.out, hq⟩
      case measure => simp [intOf]; omega
    · have hke : k = len := by omega
      subst hke
      go_wp2_with (go_at_call 15; refine (HLV.out _).mono ?_; rintro e w2 ⟨rfl, hb⟩; have HB := Lib.hid hb; clear hb)
      go_ret
      exact ⟨rfl, HP.out.u.trans (HB.out.mono HP.out.u.size)⟩
end Go.Proofs.Ytkcimbjgjamloaa
