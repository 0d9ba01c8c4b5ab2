/- ClockParts: the walk. -/
import Derived.Test.YtkcimbjgjamloaaClockPlays
import Derived.Laws.OwnMore
namespace Go.Proofs.Ytkcimbjgjamloaa
open Go.RowKit Go.Maps Clk
theorem now_nil (w : World) : Calls Try.prog 25 #[.pointer none] w fun e w' => e = .returned (.int .i64 0) ∧ w = w' := by
  go_enter Try.func25, Try.ntmps25
  go_wp2_with fail
  go_ret
  exact ⟨rfl, rfl⟩
theorem wpList_append_nilsrc {P : Program} (w : World) {ops : Array Oper} {rest : List Oper} {o : Oper} {a : Act} {Q : Exit → Act → World → Prop} (hg : o.guard = none) (s x : Operand) (t : TypeId)
    (ho : o.op = .call { callee := .builtin .append, args := #[s, x], argTypes := #[t, t] }) (hx : a.eval x = .slice none 0 0) (v : Value) (hs : a.eval s = v)
    (hrun : ∀ ty, (Builtin.append_ #[t, t] ty #[v, .slice none 0 0]).run P w = .ok v w) (h : wpList P ops Q rest (a.put o.dst v) w) : wpList P ops Q (o :: rest) a w := by
  refine wpList_plain hg fun K' hK' => ?_
  unfold Oper.wp
  simp [execOp, ho, resolve, invoke, builtin, hs, hx, hrun, Result.andThen]
  exact hK' _ _ h
/-- The two clocks: a at sum with rows La, b at 0 with rows Lb. -/
structure PartsW (w : World) (B g1 b1 g2 b2 n : Nat) (na : Int) (La Lb : List Rw) (wr : World) : Prop where
  ca : Clock wr g1 b1 n na La
  cb : Clock wr g2 b2 n 0 Lb
  d1 : g1 ≠ g2
  d2 : g1 ≠ b2
  d3 : b1 ≠ g2
  d4 : b1 ≠ b2
  l1 : w.heap.size ≤ g1 ∧ w.heap.size ≤ b1 ∧ w.heap.size ≤ g2 ∧ w.heap.size ≤ b2
  u1 : g1 < B ∧ b1 < B ∧ g2 < B ∧ b2 < B
  u : Below w.heap.size w wr
  sz : B ≤ wr.heap.size
section
variable {w wr w1 : World} {B g1 b1 g2 b2 n n' : Nat} {na na' nb' : Int} {La La' Lb Lb' : List Rw}
theorem PartsW.below (h : PartsW w B g1 b1 g2 b2 n na La Lb wr) (hb : Below wr.heap.size wr w1) : PartsW w B g1 b1 g2 b2 n na La Lb w1 :=
  ⟨clock_below h.ca hb, clock_below h.cb hb, h.d1, h.d2, h.d3, h.d4, h.l1, h.u1, h.u.trans (hb.mono h.u.size), Nat.le_trans h.sz hb.size⟩
theorem PartsW.turnA (h : PartsW w B g1 b1 g2 b2 n na La Lb wr) (ht : Touch (fun j => j = g1 ∨ j = b1) wr w1) (hc : Clock w1 g1 b1 n' na' La') (hn : n ≤ n') : PartsW w B g1 b1 g2 b2 n' na' La' Lb w1 :=
  ⟨hc, (h.cb.touch ht (fun e => by rcases e with e | e; exact h.d1 e.symm; exact h.d3 e.symm) (fun e => by rcases e with e | e; exact h.d2 e.symm; exact h.d4 e.symm)).mono hn, h.d1, h.d2, h.d3, h.d4, h.l1, h.u1, turn_below h.u ht h.l1.1 h.l1.2.1, Nat.le_trans h.sz ht.size⟩
theorem PartsW.turnB (h : PartsW w B g1 b1 g2 b2 n na La Lb wr) (ht : Touch (fun j => j = g2 ∨ j = b2) wr w1) (hc : Clock w1 g2 b2 n 0 Lb') : PartsW w B g1 b1 g2 b2 n na La Lb' w1 :=
  ⟨h.ca.touch ht (fun e => by rcases e with e | e; exact h.d1 e; exact h.d2 e) (fun e => by rcases e with e | e; exact h.d3 e; exact h.d4 e), hc, h.d1, h.d2, h.d3, h.d4, h.l1, h.u1, turn_below h.u ht h.l1.2.2.1 h.l1.2.2.2, Nat.le_trans h.sz ht.size⟩
theorem PartsW.grow {row : Option Nat} (h : PartsW w B g1 b1 g2 b2 n na La Lb wr) (hg : wr.grownBy w1 row) (hrow : ∀ k, row = some k → B ≤ k) : PartsW w B g1 b1 g2 b2 n na La Lb w1 := by
  have ht : Touch (fun j => B ≤ j) wr w1 := Touch.of_grown hg hrow
  obtain ⟨a1, a2, a3, a4⟩ := h.u1
  obtain ⟨c1, c2, c3, c4⟩ := h.l1
  exact ⟨h.ca.touch ht (by omega) (by omega), h.cb.touch ht (by omega) (by omega), h.d1, h.d2, h.d3, h.d4, h.l1, h.u1, h.u.trans (ht.below (fun k _ hk => by omega) h.u.size), Nat.le_trans h.sz ht.size⟩
end
/-- The first loop, in plain words. -/
structure PartsP (k n : Nat) (L : List Rw) : Prop where
  one : Clk.One L
  n1 : n ≤ k
  len : L.length ≤ k
  rows : ∀ p ∈ L, 0 ≤ p.2 ∧ p.2 ≤ 1073741824
  keys : ∀ p ∈ L, -9223372036854775808 ≤ p.1 ∧ p.1 ≤ 9223372036854775807
theorem PartsP.put {k n : Nat} {L : List Rw} (h : PartsP k n L) (id t : Int) (hi1 : -9223372036854775808 ≤ id) (hi2 : id ≤ 9223372036854775807) : PartsP (k + 1) (n + 1) (without L id ++ [(id, 0 + withinZ t)]) := by
  have hr := withinZ_range t
  refine ⟨h.one.put id _, by have := h.n1; omega, by have := h.len; have := without_len L id; simp; omega, fun p hp => ?_, fun p hp => ?_⟩
  · rcases List.mem_append.1 hp with hp | hp
    · exact h.rows p (mem_without.1 hp).1
    · have : p = (id, 0 + withinZ t) := by simpa using hp
      subst this
      dsimp only
      omega
  · rcases List.mem_append.1 hp with hp | hp
    · exact h.keys p (mem_without.1 hp).1
    · have : p = (id, 0 + withinZ t) := by simpa using hp
      subst this
      exact ⟨hi1, hi2⟩
/-- The second loop, in plain words. -/
def PartsI (i : Nat) (sum : Int) (all : List Int) (La L : List Rw) : Prop :=
  (i = 0 ∧ sum = 0 ∧ all = [] ∧ La = L) ∨ (0 < i ∧ all = dueIds L sum ∧ La = rest L sum)
theorem PartsI.next {i : Nat} {sum n : Int} {all : List Int} {La L : List Rw} (h : PartsI i sum all La L) (hn : 0 ≤ n) : PartsI (i + 1) (sum + n) (all ++ dueIds La (sum + n)) (rest La (sum + n)) L := by
  right
  rcases h with ⟨_, rfl, rfl, rfl⟩ | ⟨_, rfl, rfl⟩
  · exact ⟨by omega, by simp, rfl⟩
  · obtain ⟨h1, h2⟩ := due_append L sum (sum + n) (by omega)
    exact ⟨by omega, h1, h2⟩
theorem PartsI.left {i : Nat} {sum n : Int} {all : List Int} {La L : List Rw} (h : PartsI i sum all La L) (h1 : Clk.One L) {id : Int} (hid : id ∈ dueIds La (sum + n)) : ∃ t, leftAt L id = some t ∧ t ≤ sum + n ∧ (0 < i → sum < t) ∧ ∃ p ∈ L, p.2 = t := by
  obtain ⟨t, ha, hb⟩ := mem_dueIds.1 hid
  rcases h with ⟨h0, rfl, rfl, rfl⟩ | ⟨_, rfl, rfl⟩
  · exact ⟨t, (leftAt_mem h1).2 ha, hb, fun hi => by omega, _, ha, rfl⟩
  · have := rest_mem.1 ha
    exact ⟨t, (leftAt_mem h1).2 this.1, hb, fun _ => this.2, _, this.1, rfl⟩
theorem PartsI.one {i : Nat} {sum : Int} {all : List Int} {La L : List Rw} (h : PartsI i sum all La L) (h1 : Clk.One L) : Clk.One La := by
  rcases h with ⟨_, _, _, rfl⟩ | ⟨_, _, rfl⟩
  · exact h1
  · exact h1.filter _
theorem due_le (L : List Rw) (now : Int) : (dueIds L now).length ≤ L.length := by
  unfold dueIds dueRows
  rw [List.length_map, List.length_mergeSort]
  exact List.length_filter_le _ _
theorem PartsI.all_le {i : Nat} {sum : Int} {all : List Int} {La L : List Rw} (h : PartsI i sum all La L) : all.length ≤ L.length ∧ La.length ≤ L.length := by
  rcases h with ⟨_, _, rfl, rfl⟩ | ⟨_, rfl, rfl⟩
  · exact ⟨Nat.zero_le _, Nat.le_refl _⟩
  · exact ⟨due_le _ _, List.length_filter_le _ _⟩
theorem own_turn {P : Nat → Prop} {w w1 : World} {B : Nat} {e : TypeId} {size : Nat} {v : Value} {n : Nat} {xs : List Value} (h : w.ownsRow B e size v n xs) (ht : Touch P w w1) (hP : ∀ j, P j → j < B) : w1.ownsRow B e size v n xs := by
  obtain ⟨h1, h2⟩ := h
  refine ⟨h1, ?_⟩
  rcases h2 with h2 | ⟨g, cap, cur, hv, hB, hg, rest⟩
  · exact Or.inl h2
  · exact Or.inr ⟨g, cap, cur, hv, hB, (ht.block g ((Array.getElem?_eq_some_iff.1 hg).1) (fun hp => by have := hP g hp; omega)).trans hg, rest⟩
set_option maxRecDepth 100000 in
set_option maxHeartbeats 8000000 in
theorem parts_any (v v2 : Value) (l : List A3) (ps : List Int) (w : World) (h : Acts3 w v l) (hp : Nums w v2 ps) (hlz : l.length ≤ 9223372036854775807) (hpz : ps.length ≤ 9223372036854775807) :
    Calls Try.prog 5 #[v, v2] w fun e w' => e = .returned (.bool true) ∧ Below w.heap.size w w' := by
  obtain ⟨i0, hi, hz0, hz1, hz2⟩ := info_parts info_int
  obtain ⟨p, c, rfl, hc⟩ := h
  obtain ⟨pp, cc, rfl, hcc⟩ := hp
  have HLV := Lib.hid (fun W => lives41 W)
  obtain ⟨len, hlen⟩ : ∃ x, x = l.length := ⟨_, rfl⟩
  have HLEN := Lib.hid hlen
  obtain ⟨plen, hplen⟩ : ∃ x, x = ps.length := ⟨_, rfl⟩
  have HPLEN := Lib.hid hplen
  rw [← hlen] at hlz ⊢
  rw [← hplen] at hpz ⊢
  have HC := Lib.hid hc
  have HCC := Lib.hid hcc
  clear hlen hc hplen hcc
  by_cases hbig : 100 < len
  · have hbi : (100 : Int) < (len : Int) := by omega
    clear hbig
    go_enter Try.func5, Try.ntmps5
    go_wp2_with (first | (go_at_call 16; refine (set_nil _ _ _).mono ?_; rintro e' w' ⟨rfl, rfl⟩) | (go_at_call 19; refine (stop_nil _ _).mono ?_; rintro e' w' ⟨rfl, rfl⟩) | (go_at_call 20; refine (left_nil _ _).mono ?_; rintro e' w' ⟨rfl, rfl⟩) | (go_at_call 24; refine (tick_nil _ _).mono ?_; rintro e' w' ⟨rfl, rfl⟩) | (go_at_call 25; refine (now_nil _).mono ?_; rintro e' w' ⟨rfl, rfl⟩))
    refine (HLV.out _).mono ?_
    rintro e w2 ⟨rfl, hb⟩
    have HB := Lib.hid hb
    clear hb
    go_wp2_with fail
    go_ret
    exact ⟨rfl, HB.out⟩
  have hsm : (len : Int) ≤ 100 := by omega
  have hd100 : decide ((100 : Int) < (len : Int)) = false := by simpa using hsm
  by_cases hpbig : 100 < plen
  · have hpbi : (100 : Int) < (plen : Int) := by omega
    clear hbig hpbig
    go_enter Try.func5, Try.ntmps5
    go_wp2_with (first | (go_at_call 16; refine (set_nil _ _ _).mono ?_; rintro e' w' ⟨rfl, rfl⟩) | (go_at_call 19; refine (stop_nil _ _).mono ?_; rintro e' w' ⟨rfl, rfl⟩) | (go_at_call 20; refine (left_nil _ _).mono ?_; rintro e' w' ⟨rfl, rfl⟩) | (go_at_call 24; refine (tick_nil _ _).mono ?_; rintro e' w' ⟨rfl, rfl⟩) | (go_at_call 25; refine (now_nil _).mono ?_; rintro e' w' ⟨rfl, rfl⟩))
    refine (HLV.out _).mono ?_
    rintro e w2 ⟨rfl, hb⟩
    have HB := Lib.hid hb
    clear hb
    go_wp2_with fail
    go_ret
    exact ⟨rfl, HB.out⟩
  have hpsm : (plen : Int) ≤ 100 := by omega
  have hpd100 : decide ((100 : Int) < (plen : Int)) = false := by simpa using hpsm
  have hln : len ≤ 100 := by omega
  have hpln : plen ≤ 100 := by omega
  clear hbig hpbig
  go_enter Try.func5, Try.ntmps5
  go_wp2_with (first | (go_at_call 16; refine (set_nil _ _ _).mono ?_; rintro e' w' ⟨rfl, rfl⟩) | (go_at_call 19; refine (stop_nil _ _).mono ?_; rintro e' w' ⟨rfl, rfl⟩) | (go_at_call 20; refine (left_nil _ _).mono ?_; rintro e' w' ⟨rfl, rfl⟩) | (go_at_call 24; refine (tick_nil _ _).mono ?_; rintro e' w' ⟨rfl, rfl⟩) | (go_at_call 25; refine (now_nil _).mono ?_; rintro e' w' ⟨rfl, rfl⟩))
  refine (new_some 0 (by decide) (by decide) _).mono ?_
  rintro e w1 ⟨g1, b1, rfl, hck1, hb1, hg1, hbel1⟩
  have H1 := Lib.hid (And.intro hck1 (And.intro hb1 (And.intro hg1 hbel1)))
  clear hck1 hb1 hg1 hbel1
  go_wp2_with fail
  refine (new_some 0 (by decide) (by decide) _).mono ?_
  rintro e w2 ⟨g2, b2, rfl, hck2, hb2, hg2, hbel2⟩
  obtain ⟨B, hB⟩ : ∃ B, B = w2.heap.size := ⟨_, rfl⟩
  have hP0 : PartsW w B g1 b1 g2 b2 0 0 [] [] w2 := by
    obtain ⟨k1, k2, k3, k4⟩ := H1.out
    have e1 := k1.c.lt
    have e2 := k1.lt
    have e3 := hck2.c.lt
    have e4 := hck2.lt
    have e5 := hbel2.size
    have e6 := k4.size
    exact ⟨clock_below k1 hbel2, hck2, by omega, by omega, by omega, by omega, by omega, by omega, k4.trans (hbel2.mono k4.size), by omega⟩
  have hQ0 : PartsP 0 0 [] := ⟨by unfold Clk.One; decide, Nat.le_refl _, Nat.le_refl _, (fun p hp => by cases hp), fun p hp => by cases hp⟩
  have H0 := Lib.hid (And.intro hP0 hQ0)
  clear hck2 hb2 hg2 hbel2 hP0 hQ0 hB H1
  go_wp2_with fail
  go_loopw [55] (fun s55 wr => ∃ (k n : Nat) (L : List Rw), k ≤ len ∧ s55 = .int .i64 k ∧ PartsW w B g1 b1 g2 b2 n 0 L L wr ∧ PartsP k n L) (fun s55 _ => len - (intOf s55).toNat)
  case atStart => exact ⟨0, 0, [], Nat.zero_le _, rfl, H0.out.1, H0.out.2⟩
  case round =>
    obtain ⟨k, n, L, hk, rfl, hP, hQ⟩ := hrel
    have HP := Lib.hid hP
    have HQ := Lib.hid hQ
    clear hP hQ H0
    by_cases hkl : k < len
    · obtain ⟨hfit, b', off, hp, a0, a1, a2⟩ := HC.out k (by rw [← HLEN.out]; exact hkl)
      subst hp
      obtain ⟨x, hx⟩ : ∃ x, x = l[k]'(by rw [← HLEN.out]; exact hkl) := ⟨_, rfl⟩
      rw [← hx] at hfit a0 a1 a2
      clear hx
      obtain ⟨dd, id, t⟩ := x
      have hbl := World.block_lt_of_cell? w _ a0
      have e0 : wr.cell? ⟨b', off + k * 3, none⟩ = some (.int .i64 dd) := (HP.out.u.cell (p := ⟨b', off + k * 3, none⟩) hbl).trans a0
      have e1 : wr.cell? ⟨b', off + k * 3 + 1, none⟩ = some (.int .i64 id) := (HP.out.u.cell (p := ⟨b', off + k * 3 + 1, none⟩) hbl).trans a1
      have e2 : wr.cell? ⟨b', off + k * 3 + 2, none⟩ = some (.int .i64 t) := (HP.out.u.cell (p := ⟨b', off + k * 3 + 2, none⟩) hbl).trans a2
      obtain ⟨_, ⟨hi1, hi2⟩, _⟩ := hfit
      dsimp only at hi1 hi2
      clear a0 a1 a2 hbl
      have hk0 : (0 : Int) ≤ (k : Int) := by omega
      have hki : (k : Int) < (len : Int) := by omega
      have HA := Lib.hid (HP.out.below ((Below.refl wr.heap.size wr).alloc (Nat.le_refl _) (.cells #[.int .i64 dd, .int .i64 id, .int .i64 t] 39)))
      have HAB := Lib.hid (Blk.new wr #[.int .i64 dd, .int .i64 id, .int .i64 t] 39)
      have hn1000 : n < 1000000 := by have := HQ.out.n1; omega
      go_wp2_with fail
      refine (set_any HA.out.ca id t hi1 hi2 (by decide) (by decide) hn1000).mono ?_
      rintro e w3 ⟨rfl, hck, ht⟩
      have hA3 := HA.out.turnA (ht.mono (fun _ _ h => Or.inr h)) hck (Nat.le_succ _)
      have hB3 := HAB.out.touch ht (by have := HA.out.u1; have := HP.out.sz; omega)
      have HA3 := Lib.hid (And.intro hA3 hB3)
      have q1 : w3.cell? ⟨wr.heap.size, 1, none⟩ = some (.int .i64 id) := hB3.cell 1
      have q2 : w3.cell? ⟨wr.heap.size, 2, none⟩ = some (.int .i64 t) := hB3.cell 2
      have hcb : Clock w3 g2 b2 n 0 L := HA.out.cb.touch (P := fun j => j = g1 ∨ j = b1) (ht.mono (fun _ _ h => Or.inr h)) (fun e => by rcases e with e | e; exact HA.out.d1 e.symm; exact HA.out.d3 e.symm) (fun e => by rcases e with e | e; exact HA.out.d2 e.symm; exact HA.out.d4 e.symm)
      have HCB := Lib.hid hcb
      clear hck ht hA3 hB3 hcb
      go_wp2_with fail
      refine (set_any HCB.out id t hi1 hi2 (by decide) (by decide) hn1000).mono ?_
      rintro e w4 ⟨rfl, hck, ht⟩
      have HA4 := Lib.hid (HA3.out.1.turnB (ht.mono (fun _ _ h => Or.inr h)) hck)
      clear hck ht
      go_wp2_with fail
      go_roundw
      case rel => exact ⟨k + 1, n + 1, _, by omega, by go_num, HA4.out, HQ.out.put id t hi1 hi2⟩
      case measure => simp [intOf]; omega
    · have hke : k = len := by omega
      subst hke
      have hn1000 : n ≤ 1000 := by have := HQ.out.n1; omega
      have hL100 : L.length ≤ 100 := by have := HQ.out.len; omega
      go_wp2_with fail
      obtain ⟨wp, hwp⟩ : ∃ x, x = wr := ⟨_, rfl⟩
      rw [← hwp]
      rw [← hwp] at HP
      clear hwp
      go_loopw [12, 13, 75] (fun s12 s13 s75 wx => ∃ (i : Nat) (sum : Int) (all : List Int) (La : List Rw), i ≤ plen ∧ s75 = .int .i64 i ∧ s13 = .int .i64 sum ∧ 0 ≤ sum ∧ sum ≤ 1073741824 ∧ wx.ownsRow wp.heap.size 3 1 s12 all.length (all.map (Value.int .i64)) ∧ PartsW w B g1 b1 g2 b2 n sum La L wx ∧ PartsI i sum all La L ∧ wp.heap.size ≤ wx.heap.size) (fun _ _ s75 _ => plen - (intOf s75).toNat)
      case atStart => exact ⟨0, 0, [], L, Nat.zero_le _, rfl, rfl, by decide, by decide, ⟨rfl, .inr ⟨wp.heap.size, 0, #[], rfl, Nat.le_refl _, heap_alloc_new _ _, Nat.le_refl _, Nat.zero_le _, rfl, rfl⟩⟩, HP.out.below ((Below.refl _ _).alloc (Nat.le_refl _) _), Or.inl ⟨rfl, rfl, rfl, rfl⟩, by simp⟩
      case round =>
        obtain ⟨i, sum, all, La, hip, rfl, rfl, hs0, hs1, hown, hW, hI, hZ⟩ := hrel
        have HO := Lib.hid hown
        have HW := Lib.hid hW
        have HI := Lib.hid hI
        have HZ := Lib.hid hZ
        clear hown hW hI hZ
        by_cases hil : i < plen
        · obtain ⟨b', off, hp', a0⟩ := HCC.out i (by rw [← HPLEN.out]; exact hil)
          subst hp'
          obtain ⟨x, hx⟩ : ∃ x, x = ps[i]'(by rw [← HPLEN.out]; exact hil) := ⟨_, rfl⟩
          rw [← hx] at a0
          clear hx
          have hbl := World.block_lt_of_cell? w _ a0
          have e0 : wr.cell? ⟨b', off + i, none⟩ = some (.int .i64 x) := (HW.out.u.cell (p := ⟨b', off + i, none⟩) hbl).trans a0
          clear a0 hbl
          have hi0' : (0 : Int) ≤ (i : Int) := by omega
          have hii : (i : Int) < (plen : Int) := by omega
          obtain ⟨nz, hnz⟩ : ∃ z, z = withinZ x := ⟨_, rfl⟩
          have hr0 : 0 ≤ nz := by rw [hnz]; exact (withinZ_range x).1
          have hr1 : nz ≤ 1073741824 := by rw [hnz]; exact (withinZ_range x).2
          have HWI : Hid (∀ W, Calls Try.prog 18 #[.int .i64 x] W fun e w' => e = .returned (.int .i64 nz) ∧ W = w') := fun W => by rw [hnz]; exact rwithin_any x W
          clear hnz
          by_cases hover : 1073741824 - sum < nz
          · go_wp2_with (go_at_call 18; refine (HWI.out _).mono ?_; rintro e' w' ⟨rfl, rfl⟩)
            refine (HLV.out _).mono ?_
            rintro e w5 ⟨rfl, hb⟩
            have HB := Lib.hid hb
            clear hb
            go_wp2_with fail
            go_ret
            exact ⟨rfl, HW.out.u.trans (HB.out.mono HW.out.u.size)⟩
          have hov : decide (1073741824 - sum < nz) = false := by simpa using hover
          have hsum2 : sum + nz ≤ 1073741824 := by omega
          have hw2 : withinZ nz = nz := by unfold withinZ; rw [if_neg (by omega), if_neg (by omega)]
          have htk := tick_any HW.out.ca (HI.out.one HQ.out.one) nz (by omega) (by omega) hn1000
          rw [hw2] at htk
          have HTK := Lib.hid htk
          clear hover htk hw2
          go_wp2_with (go_at_call 18; refine (HWI.out _).mono ?_; rintro e' w' ⟨rfl, rfl⟩)
          refine HTK.out.mono ?_
          rintro e w5 ⟨v5, rfl, hn5, hck, ht⟩
          have hW5 := HW.out.turnA ht hck (Nat.le_refl _)
          have hO5 : w5.ownsRow wp.heap.size 3 1 _ all.length (all.map (Value.int .i64)) := own_turn HO.out ht (fun j hj => by have := HW.out.u1; have := HP.out.sz; omega)
          obtain ⟨ds, hds⟩ : ∃ ds, ds = dueIds La (sum + nz) := ⟨_, rfl⟩
          rw [← hds] at hn5
          have HDS := Lib.hid hds
          have hdl : ds.length ≤ 100 := by rw [hds]; have := due_le La (sum + nz); have := HI.out.all_le; omega
          have hal : all.length ≤ 100 := by have := HI.out.all_le; omega
          have HLF : Hid (∀ (j : Nat) (h : j < ds.length), ∃ t, leftAt L ds[j] = some t ∧ t ≤ sum + nz ∧ (0 < i → sum < t) ∧ ∃ p ∈ L, p.2 = t) := fun j hj => HI.out.left HQ.out.one (by rw [← hds]; exact List.getElem_mem hj)
          have hnx := HI.out.next hr0
          rw [← hds] at hnx
          have HNX := Lib.hid hnx
          have HP5 := Lib.hid (Nat.le_trans HZ.out ht.size)
          obtain ⟨p5, c5, hv5, hp5, hc5⟩ := hn5
          subst hv5
          have H5 := Lib.hid (And.intro hW5 (And.intro hO5 (And.intro hp5 hc5)))
          clear hnx hds hck ht hW5 hO5 hp5 hc5 HTK
          go_wp2_with fail
          go_loop [92] (fun s92 => ∃ j : Nat, j ≤ ds.length ∧ s92 = .int .i64 j) (fun s92 => ds.length - (intOf s92).toNat)
          case atStart => exact ⟨0, Nat.zero_le _, rfl⟩
          case round =>
            obtain ⟨j, hj, rfl⟩ := hrel
            by_cases hjl : j < ds.length
            · obtain ⟨b6, off6, _, hp6, a6⟩ := H5.out.2.2.2 j hjl
              subst hp6
              obtain ⟨t6, hl6, ht6, hi6, pq, hpq, hpt⟩ := HLF.out j hjl
              have hrow := HQ.out.rows pq hpq
              rw [hpt] at hrow
              obtain ⟨y, hy⟩ : ∃ y, y = ds[j] := ⟨_, rfl⟩
              rw [← hy] at a6 hl6
              have hwfy : ∀ W, Clock W g2 b2 n 0 L → Calls Try.prog 20 #[.pointer (some ⟨g2, 0, none⟩), .int .i64 y] W fun e w' => e = .returned (.tuple #[.int .i64 t6, .bool true]) ∧ W = w' := fun W hW => by
                have hyw := HQ.out.keys (y, t6) ((leftAt_mem HQ.out.one).1 hl6)
                have := left_any hW y hyw.1 hyw.2 (by decide) (by decide) (fun p hp => by have := HQ.out.rows p hp; omega) HQ.out.one
                have e6 : leftV 0 (some t6) = .tuple #[.int .i64 (t6 - 0), .bool true] := rfl
                rw [hl6, e6, Int.sub_zero] at this
                exact this
              have HWY := Lib.hid hwfy
              have hj0 : (0 : Int) ≤ (j : Int) := by omega
              have hji : (j : Int) < (ds.length : Int) := by omega
              have hr60 := hrow.1
              have hr61 := hrow.2
              have hg6 : decide (sum + nz < t6) = false := by simpa using ht6
              clear hy hl6 hpq hpt hrow hwfy ht6
              by_cases hi00 : i = 0
              · have hz0' : decide ((0 : Int) < (i : Int)) = false := by simp [hi00]
                have hz1' : decide (0 < i) = false := by simp [hi00]
                have hz2' : ¬ 0 < i := by omega
                clear hi6 hi00
                by_cases hts : t6 ≤ sum
                · have hls2 : decide (t6 ≤ sum) = true := by simpa using hts
                  clear hts
                  go_wp2_with (go_at_call 20; refine (HWY.out _ H5.out.1.cb).mono ?_; rintro e' w' ⟨rfl, rfl⟩)
                  go_round
                  all_goals first | exact ⟨j + 1, by omega, by go_num⟩ | exact ⟨⟨j + 1, by omega, by go_num⟩, by simp [intOf]; omega⟩ | (simp [intOf]; omega)
                · have hls2 : decide (t6 ≤ sum) = false := by simpa using hts
                  clear hts
                  go_wp2_with (go_at_call 20; refine (HWY.out _ H5.out.1.cb).mono ?_; rintro e' w' ⟨rfl, rfl⟩)
                  go_round
                  all_goals first | exact ⟨j + 1, by omega, by go_num⟩ | exact ⟨⟨j + 1, by omega, by go_num⟩, by simp [intOf]; omega⟩ | (simp [intOf]; omega)
              · have hls : sum < t6 := hi6 (by omega)
                have hls2 : decide (t6 ≤ sum) = false := by simpa using hls
                clear hi6 hi00
                go_wp2_with (go_at_call 20; refine (HWY.out _ H5.out.1.cb).mono ?_; rintro e' w' ⟨rfl, rfl⟩)
                go_round
                all_goals first | exact ⟨j + 1, by omega, by go_num⟩ | exact ⟨⟨j + 1, by omega, by go_num⟩, by simp [intOf]; omega⟩ | (simp [intOf]; omega)
            · have hje : j = ds.length := by omega
              subst hje
              cases hpc : p5 with
              | none =>
                have hc0 : c5 = 0 := H5.out.2.2.1 hpc
                have hd0 : ds = [] := by
                  cases ds with
                  | nil => rfl
                  | cons a t =>
                    obtain ⟨_, _, _, e, _⟩ := H5.out.2.2.2 0 (by simp)
                    rw [hpc] at e
                    cases e
                have HW5 := Lib.hid H5.out.1
                have HO5 := Lib.hid H5.out.2.1
                have hap : ∀ ty, (Builtin.append_ #[49, 49] ty #[u12, .slice none 0 0]).run Try.prog w5 = .ok u12 w5 := fun ty => run_append_owned_none w5 wp.heap.size 49 ty 3 i0 1 Try.underlying49 hi u12 _ _ H5.out.2.1
                clear H5 HWI HLF HDS hpc
                subst hd0 hc0
                go_wp2_with (at_builtin; refine wpList_append_nilsrc _ rfl _ _ 49 rfl rfl u12 rfl hap ?_; clear hap)
                go_roundw
                case rel =>
                  have hx := HNX.out
                  rw [List.append_nil] at hx
                  exact ⟨i + 1, sum + nz, all, _, by omega, by go_num, rfl, by omega, hsum2, HO5.out, HW5.out, hx, HP5.out⟩
                case measure => simp [intOf]; omega
              | some a =>
                have HW5 := Lib.hid H5.out.1
                have HO5 := Lib.hid H5.out.2.1
                have hnews : ∀ (j : Nat) (u : Value), (ds.map (Value.int .i64))[j]? = some u → w5.cell? (a.add j) = some u := by
                  intro j u hu
                  rw [List.getElem?_map] at hu
                  rcases Nat.lt_or_ge j ds.length with hj' | hj'
                  · obtain ⟨b7, o7, _, e7, c7⟩ := H5.out.2.2.2 j hj'
                    rw [hpc] at e7
                    cases e7
                    rw [List.getElem?_eq_getElem hj'] at hu
                    cases hu
                    rw [addr_add]
                    exact c7
                  · rw [List.getElem?_eq_none hj'] at hu
                    cases hu
                have HNW := Lib.hid hnews
                clear H5 HWI HLF HDS hpc hnews
                have hdm : (ds.map (Value.int .i64)).length = ds.length * 1 := by simp
                have hone : ∀ u ∈ ds.map (Value.int .i64), u.oneCell' = true := fun u hu => by obtain ⟨_, _, rfl⟩ := List.mem_map.1 hu; rfl
                have HDM := Lib.hid (And.intro hdm hone)
                clear hdm hone
                go_wp2_with (at_builtin; refine wpList_append_own _ rfl _ _ 49 rfl wp.heap.size 3 i0 (.int .i64 0) 1 8 Try.underlying49 hi hz0 hz1 hz2 rfl (by decide) _ _ _ rfl HO5.out a ds.length c5 (ds.map (Value.int .i64)) rfl HDM.out.1 HNW.out HDM.out.2 ?c3 ?c4 HP5.out ?_)
                case c3 => unfold maxLen; omega
                case c4 => omega
                intro v6 w6 hown6 hg6 _
                have hlo := HO5.out.lt
                have hW6 := HW5.out.grow hg6 (fun k hk => by have := (hlo k hk).1; have := HP.out.sz; omega)
                have HW6 := Lib.hid (And.intro hW6 hown6)
                have HZ6 := Lib.hid hg6.size
                clear hown6 hg6 hlo hW6
                go_wp2_with fail
                go_roundw
                case rel => exact ⟨i + 1, sum + nz, all ++ ds, _, by omega, by go_num, rfl, by omega, hsum2, by rw [List.length_append, List.map_append]; exact HW6.out.2, HW6.out.1, HNX.out, Nat.le_trans HP5.out HZ6.out⟩
                case measure => simp [intOf]; omega
        · have hie : i = plen := by omega
          subst hie
          by_cases hp0 : i = 0
          · have hpz1 : ((i : Int) == 0) = true := by simp [hp0]
            clear hp0
            go_wp2_with fail
            refine (HLV.out _).mono ?_
            rintro e w5 ⟨rfl, hb⟩
            have HB := Lib.hid hb
            clear hb
            go_wp2_with fail
            go_ret
            exact ⟨rfl, HW.out.u.trans (HB.out.mono HW.out.u.size)⟩
          · have hpz1 : ((i : Int) == 0) = false := by rw [beq_eq_false_iff_ne]; omega
            obtain ⟨hall, hla⟩ : all = dueIds L sum ∧ La = rest L sum := by
              rcases HI.out with ⟨e, _⟩ | ⟨_, e1, e2⟩
              · exact absurd e hp0
              · exact ⟨e1, e2⟩
            have hw2 : withinZ sum = sum := by unfold withinZ; rw [if_neg (by omega), if_neg (by omega)]
            have htk := tick_any HW.out.cb HQ.out.one sum (by decide) (by decide) hn1000
            rw [hw2, Int.zero_add, ← hall] at htk
            have HTK := Lib.hid htk
            have hal : all.length ≤ 100 := by have := HI.out.all_le; omega
            clear hp0 hall hla hw2 htk
            go_wp2_with fail
            refine HTK.out.mono ?_
            rintro e w6 ⟨v6, rfl, hn6, hck, ht⟩
            have hO6 : w6.ownsRow wp.heap.size 3 1 _ all.length (all.map (Value.int .i64)) := own_turn HO.out ht (fun j hj => by have := HW.out.u1; have := HP.out.sz; omega)
            have hu6 := turn_below HW.out.u ht HW.out.l1.2.2.1 HW.out.l1.2.2.2
            have hca6 := HW.out.ca.touch ht (fun e => by rcases e with e | e; exact HW.out.d1 e; exact HW.out.d2 e) (fun e => by rcases e with e | e; exact HW.out.d3 e; exact HW.out.d4 e)
            have H6 := Lib.hid (And.intro (Nums.of_own hO6) (And.intro hn6.nums (And.intro hu6 (And.intro hca6 hck))))
            clear hn6 hck ht hO6 hu6 hca6
            go_wp2_with fail
            refine (isame_self _ v6 all w6 H6.out.1 H6.out.2.1 (by omega)).mono ?_
            rintro e w7 ⟨rfl, hb⟩
            have H7 := Lib.hid (And.intro (H6.out.2.2.1.trans (hb.mono H6.out.2.2.1.size)) (And.intro (clock_below H6.out.2.2.2.1 hb) (clock_below H6.out.2.2.2.2 hb)))
            clear hb
            go_wp2_with fail
            refine (now_any H7.out.2.1).mono ?_
            rintro e w8 ⟨rfl, rfl⟩
            go_wp2_with fail
            refine (now_any H7.out.2.2).mono ?_
            rintro e w8 ⟨rfl, rfl⟩
            go_wp2_with fail
            refine (HLV.out _).mono ?_
            rintro e w9 ⟨rfl, hb⟩
            have HB := Lib.hid hb
            clear hb
            go_wp2_with fail
            go_ret
            exact ⟨rfl, H7.out.1.trans (HB.out.mono H7.out.1.size)⟩
end Go.Proofs.Ytkcimbjgjamloaa
