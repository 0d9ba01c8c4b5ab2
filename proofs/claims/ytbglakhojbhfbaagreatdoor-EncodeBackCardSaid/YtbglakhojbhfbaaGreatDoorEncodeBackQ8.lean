/- Texts packed for one claim, 8 of 49: Flds HSame Nums. -/
import Derived.Test.YtbglakhojbhfbaaGreatDoorEncodeBackQ2
import Derived.IntWalk
set_option linter.unusedSimpArgs false
set_option linter.unusedVariables false
-- Flds
namespace Go.Proofs.YtbglakhojbhfbaaGreatDoor
open Go.RowKit
/-- A field: its name, its value. -/
abbrev Fd := ByteArray × ByteArray
/-- v is a slice that reads as these fields. -/
def Flds (w : World) (v : Value) (l : List Fd) : Prop :=
  ∃ p c, v = .slice p l.length c ∧ ∀ i (h : i < l.length), ∃ b off, p = some ⟨b, off, none⟩ ∧ w.cell? ⟨b, off + 2 * i, none⟩ = some (.string l[i].1) ∧ w.cell? ⟨b, off + 2 * i + 1, none⟩ = some (.string l[i].2)
theorem Flds.below {w w' : World} {v : Value} {l : List Fd} (h : Flds w v l) (hb : Below w.heap.size w w') : Flds w' v l := by
  obtain ⟨p, c, hv, hc⟩ := h
  refine ⟨p, c, hv, fun i hi => ?_⟩
  obtain ⟨b, off, hp, h1, h2⟩ := hc i hi
  have hlt := World.block_lt_of_cell? w _ h1
  exact ⟨b, off, hp, ((bcell hb) b _ hlt).trans h1, ((bcell hb) b _ hlt).trans h2⟩
theorem Flds.nil (w : World) (p : Option Addr) (c : Nat) : Flds w (.slice p 0 c) [] := ⟨p, c, rfl, fun i hi => absurd hi (Nat.not_lt_zero _)⟩
/-- The cells of some fields. -/
def flat (l : List Fd) : List Value := l.flatMap fun p => [.string p.1, .string p.2]
theorem flat_length (l : List Fd) : (flat l).length = l.length * 2 := by
  induction l with
  | nil => rfl
  | cons a l ih => unfold flat at ih ⊢; rw [List.flatMap_cons, List.length_append, ih]; simp; omega
theorem flat_at (l : List Fd) : ∀ (i : Nat) (h : i < l.length), (flat l)[2 * i]? = some (.string l[i].1) ∧ (flat l)[2 * i + 1]? = some (.string l[i].2) := by
  induction l with
  | nil => intro i h; exact absurd h (Nat.not_lt_zero _)
  | cons a l ih =>
    intro i h
    have e : flat (a :: l) = .string a.1 :: .string a.2 :: flat l := rfl
    rw [e]
    cases i with
    | zero => exact ⟨rfl, rfl⟩
    | succ i =>
      have := ih i (by simpa using h)
      rw [show 2 * (i + 1) = 2 * i + 2 by omega]
      simpa using this
theorem flat_append (l m : List Fd) : flat (l ++ m) = flat l ++ flat m := by unfold flat; rw [List.flatMap_append]
theorem Flds.of_own {w : World} {B : Nat} {v : Value} {l : List Fd} (h : w.ownsRow B 51 2 v l.length (flat l)) : Flds w v l := by
  obtain ⟨_, h⟩ := h
  rcases h with ⟨rfl, h0⟩ | ⟨g, cap, cur, rfl, _, hg, h1, h2, h3, h4⟩
  · have : l = [] := List.eq_nil_of_length_eq_zero h0
    subst this
    exact Flds.nil _ _ _
  · refine ⟨_, cap, rfl, fun i hi => ⟨g, 0, rfl, ?_⟩⟩
    obtain ⟨a, b⟩ := flat_at l i hi
    rw [← h4] at a b
    rw [List.getElem?_take, if_pos (by omega)] at a b
    simp only [World.cell?, hg, Nat.zero_add]
    simp only [Array.getElem?_toList] at a b
    exact ⟨a, b⟩
theorem below_drewN (w : World) (n : Nat) : Below w.heap.size w (w.drewN n) := ⟨rfl, rfl, rfl, Nat.le_refl _, fun _ _ => rfl⟩
theorem below_drewM {B : Nat} {a w : World} (h : Below B a w) (n : Nat) : Below B a (w.drewN n) := h.trans ⟨rfl, rfl, rfl, Nat.le_refl _, fun _ _ => rfl⟩
theorem str_ne {a b : ByteArray} (h : a ≠ b) : (a.toList == b.toList) = false := by
  rw [Bool.eq_false_iff]
  intro hc
  have e := eq_of_beq hc
  rw [ByteArray.toList_eq, ByteArray.toList_eq] at e
  exact h (ByteArray.ext (Array.toList_inj.1 e))
set_option maxRecDepth 100000 in
theorem fsame_any (v v' : Value) (l l' : List Fd) (w : World) (h : Flds w v l) (h' : Flds w v' l') (hz : l.length ≤ 1000000000) (hz' : l'.length ≤ 1000000000) :
    Calls Tryz.prog 12 #[v, v'] w fun e w' => e = .returned (.bool (decide (l = l'))) ∧ Below w.heap.size w w' := by
  obtain ⟨p, c, rfl, hc⟩ := h
  obtain ⟨p', c', rfl, hc'⟩ := h'
  by_cases hn : l.length = l'.length
  · have HN := Lib.hid hn
    obtain ⟨n, hnl⟩ : ∃ n, n = l.length := ⟨_, rfl⟩
    have hnl' : n = l'.length := by omega
    have HNl := Lib.hid hnl
    have HNl' := Lib.hid hnl'
    rw [← hnl] at hz ⊢
    rw [← hnl']
    have HC := Lib.hid hc
    have HC' := Lib.hid hc'
    have hnn : (((n : Nat) : Int) != (n : Int)) = false := by simp
    clear hc hc' hn hnl hnl' hz'
    go_enter Tryz.func12, Tryz.ntmps12
    go_wp2_with fail
    go_loopw [5] (fun i wr => ∃ k m : Nat, k ≤ n ∧ i = .int .i64 k ∧ wr = w.drewN m ∧ (∀ (j : Nat) (h1 : j < l.length) (h2 : j < l'.length), j < k → l[j] = l'[j])) (fun i _ => n - (intOf i).toNat)
    case atStart => exact ⟨0, 0, by omega, rfl, rfl, fun j _ _ hj => absurd hj (Nat.not_lt_zero _)⟩
    case round =>
      obtain ⟨k, m, hk, rfl, rfl, hall⟩ := hrel
      have HA := Lib.hid hall
      clear hall
      by_cases hkn : k < n
      · have hk1 : k < l.length := by rw [← HNl.out]; exact hkn
        have hk2 : k < l'.length := by rw [← HNl'.out]; exact hkn
        obtain ⟨b, off, hp, a1, a2⟩ := HC.out k hk1
        obtain ⟨b', off', hp', b1, b2⟩ := HC'.out k hk2
        subst hp hp'
        obtain ⟨x, hx⟩ : ∃ x, x = l[k] := ⟨_, rfl⟩
        obtain ⟨y, hy⟩ : ∃ y, y = l'[k] := ⟨_, rfl⟩
        rw [← hx] at a1 a2
        rw [← hy] at b1 b2
        have HX : Hid (∀ h : k < l.length, x = l[k]) := fun _ => hx
        have HY : Hid (∀ h : k < l'.length, y = l'[k]) := fun _ => hy
        clear hx hy
        obtain ⟨x1, x2⟩ := x
        obtain ⟨y1, y2⟩ := y
        have HI : Hid (k < l.length ∧ k < l'.length) := ⟨hk1, hk2⟩
        clear hk1 hk2 hnn
        rw [show off + 2 * k = off + k * 2 by omega] at a1 a2
        rw [show off' + 2 * k = off' + k * 2 by omega] at b1 b2
        dsimp only at a1 a2 b1 b2
        have hk0 : (0 : Int) ≤ (k : Int) := by omega
        have hki : (k : Int) < (n : Int) := by omega
        by_cases e1 : x1 = y1
        · subst e1
          by_cases e2 : x2 = y2
          · subst e2
            go_wp2_with fail
            go_quiet (fail)
            go_wp2_with fail
            go_roundw
            case rel =>
              refine ⟨k + 1, _, by omega, by go_num, by first | rfl | (rw [drewN_drewN]), fun j h1 h2 hj => ?_⟩
              by_cases e : j = k
              · subst e; rw [← HX.out h1, ← HY.out h2]
              · exact HA.out j h1 h2 (by omega)
            case measure => simp [intOf]; omega
          · have q2 := str_ne e2
            have HE : Hid (l ≠ l') := by
              show l ≠ l'
              rintro rfl
              have := (HX.out HI.out.1).trans (HY.out HI.out.2).symm
              exact e2 (congrArg Prod.snd this)
            clear e2
            go_wp2_with fail
            go_quiet (fail)
            go_wp2_with fail
            go_ret
            rw [decide_eq_false HE.out]
            exact ⟨rfl, below_drewM (below_drewN _ _) _⟩
        · have q1 := str_ne e1
          have HE : Hid (l ≠ l') := by
            show l ≠ l'
            rintro rfl
            have := (HX.out HI.out.1).trans (HY.out HI.out.2).symm
            exact e1 (congrArg Prod.fst this)
          clear e1
          go_wp2_with fail
          go_quiet (fail)
          go_wp2_with fail
          go_ret
          rw [decide_eq_false HE.out]
          exact ⟨rfl, below_drewM (below_drewN _ _) _⟩
      · have hkn' : k = n := by omega
        have HE : Hid (l = l') := List.ext_getElem HN.out (fun j h1 h2 => HA.out j h1 h2 (by have := HNl.out; omega))
        subst hkn'
        go_wp2_with fail
        go_ret
        rw [decide_eq_true HE.out]
        exact ⟨rfl, below_drewN _ _⟩
  · have HE : Hid (l ≠ l') := fun e => hn (by rw [e])
    have hnn : (((l.length : Nat) : Int) != (l'.length : Int)) = true := by simp; omega
    clear hc hc'
    go_enter Tryz.func12, Tryz.ntmps12
    go_wp2_with fail
    go_ret
    rw [decide_eq_false HE.out]
    exact ⟨rfl, Below.refl _ _⟩
end Go.Proofs.YtbglakhojbhfbaaGreatDoor
-- HSame
namespace Go.Proofs.YtbglakhojbhfbaaGreatDoor
open Go.RowKit
theorem below_two {w w1 : World} {o o' : Obj} (h : Below ((w.alloc o).alloc o').heap.size ((w.alloc o).alloc o') w1) : Below w.heap.size w w1 := (((Below.refl _ _).alloc (Nat.le_refl _) _).alloc (by simp) _).trans (h.mono (by simp; omega))
end Go.Proofs.YtbglakhojbhfbaaGreatDoor
-- Nums
namespace Go.Proofs.YtbglakhojbhfbaaGreatDoor
open Go.RowKit
/-- v is a slice that reads as these numbers. -/
def Nums (w : World) (v : Value) (l : List Int) : Prop :=
  ∃ p c, v = .slice p l.length c ∧ ∀ i (h : i < l.length), ∃ b off, p = some ⟨b, off, none⟩ ∧ w.cell? ⟨b, off + i, none⟩ = some (.int .i64 l[i])
theorem Nums.below {w w' : World} {v : Value} {l : List Int} (h : Nums w v l) (hb : Below w.heap.size w w') : Nums w' v l := by
  obtain ⟨p, c, hv, hc⟩ := h
  refine ⟨p, c, hv, fun i hi => ?_⟩
  obtain ⟨b, off, hp, h1⟩ := hc i hi
  have hlt := World.block_lt_of_cell? w _ h1
  exact ⟨b, off, hp, ((bcell hb) b _ hlt).trans h1⟩
theorem Nums.nil (w : World) (p : Option Addr) (c : Nat) : Nums w (.slice p 0 c) [] := ⟨p, c, rfl, fun i hi => absurd hi (Nat.not_lt_zero _)⟩
theorem Nums.of_own {w : World} {B : Nat} {t : TypeId} {v : Value} {l : List Int} (h : w.ownsRow B t 1 v l.length (l.map (Value.int .i64))) : Nums w v l := by
  obtain ⟨_, h⟩ := h
  rcases h with ⟨rfl, h0⟩ | ⟨g, cap, cur, rfl, _, hg, h1, h2, h3, h4⟩
  · have : l = [] := List.eq_nil_of_length_eq_zero h0
    subst this
    exact Nums.nil _ _ _
  · refine ⟨_, cap, rfl, fun i hi => ⟨g, 0, rfl, ?_⟩⟩
    have a : (l.map (Value.int .i64))[i]? = some (.int .i64 l[i]) := by rw [List.getElem?_map, List.getElem?_eq_getElem hi]; rfl
    rw [← h4, List.getElem?_take, if_pos (by omega)] at a
    simp only [World.cell?, hg, Nat.zero_add]
    simp only [Array.getElem?_toList] at a
    exact a
/-- A slice of numbers, in blocks from B on. -/
def NumsB (B : Nat) (w : World) (v : Value) (l : List Int) : Prop :=
  ∃ p c, v = .slice p l.length c ∧ (p = none → c = 0) ∧ ∀ i (h : i < l.length), ∃ b off, B ≤ b ∧ p = some ⟨b, off, none⟩ ∧ w.cell? ⟨b, off + i, none⟩ = some (.int .i64 l[i])
theorem NumsB.nums {B : Nat} {w : World} {v : Value} {l : List Int} (h : NumsB B w v l) : Nums w v l := by
  obtain ⟨p, c, hv, _, hc⟩ := h
  exact ⟨p, c, hv, fun i hi => let ⟨b, off, _, h2, h3⟩ := hc i hi; ⟨b, off, h2, h3⟩⟩
theorem NumsB.touch {B : Nat} {P : Nat → Prop} {w w' : World} {v : Value} {l : List Int} (h : NumsB B w v l) (ht : Touch P w w') (hP : ∀ j, P j → j < B) : NumsB B w' v l := by
  obtain ⟨p, c, hv, h0, hc⟩ := h
  refine ⟨p, c, hv, h0, fun i hi => ?_⟩
  obtain ⟨b, off, h1, h2, h3⟩ := hc i hi
  have hlt := World.block_lt_of_cell? w _ h3
  exact ⟨b, off, h1, h2, (World.cell?_of_block (ht.block b hlt (fun hp => by have := hP b hp; omega))).trans h3⟩
theorem NumsB.below {B : Nat} {w w' : World} {v : Value} {l : List Int} (h : NumsB B w v l) (hb : Below w.heap.size w w') : NumsB B w' v l := h.touch (P := fun _ => False) (Touch.of_below hb) (fun _ h => h.elim)
theorem NumsB.mono {B B' : Nat} {w : World} {v : Value} {l : List Int} (h : NumsB B w v l) (hB : B' ≤ B) : NumsB B' w v l := by
  obtain ⟨p, c, hv, h0, hc⟩ := h
  exact ⟨p, c, hv, h0, fun i hi => let ⟨b, off, h1, h2, h3⟩ := hc i hi; ⟨b, off, by omega, h2, h3⟩⟩
theorem NumsB.of_own {w : World} {B : Nat} {t : TypeId} {v : Value} {l : List Int} (h : w.ownsRow B t 1 v l.length (l.map (Value.int .i64))) : NumsB B w v l := by
  have hlo := h.lt
  have hn := Nums.of_own h
  have h0 : ∀ p c, v = .slice p l.length c → p = none → c = 0 := by
    rintro p c rfl rfl
    obtain ⟨_, hh⟩ := h
    rcases hh with ⟨e, _⟩ | ⟨g, cap, cur, e, _⟩
    · injection e
    · cases e
  obtain ⟨p, c, hv, hc⟩ := hn
  refine ⟨p, c, hv, h0 p c hv, fun i hi => ?_⟩
  obtain ⟨b, off, hp, h1⟩ := hc i hi
  exact ⟨b, off, (hlo b (by rw [hv, hp]; rfl)).1, hp, h1⟩
theorem nbelow_drewN (w : World) (n : Nat) : Below w.heap.size w (w.drewN n) := ⟨rfl, rfl, rfl, Nat.le_refl _, fun _ _ => rfl⟩
theorem nbelow_drewM {B : Nat} {a w : World} (h : Below B a w) (n : Nat) : Below B a (w.drewN n) := h.trans ⟨rfl, rfl, rfl, Nat.le_refl _, fun _ _ => rfl⟩
set_option maxRecDepth 100000 in
theorem isame_any (v v' : Value) (l l' : List Int) (w : World) (h : Nums w v l) (h' : Nums w v' l') (hz : l.length ≤ 1000000000) (hz' : l'.length ≤ 1000000000) :
    Calls Tryz.prog 11 #[v, v'] w fun e w' => e = .returned (.bool (decide (l = l'))) ∧ Below w.heap.size w w' := by
  obtain ⟨p, c, rfl, hc⟩ := h
  obtain ⟨p', c', rfl, hc'⟩ := h'
  by_cases hn : l.length = l'.length
  · have HN := Lib.hid hn
    obtain ⟨n, hnl⟩ : ∃ n, n = l.length := ⟨_, rfl⟩
    have hnl' : n = l'.length := by omega
    have HNl := Lib.hid hnl
    have HNl' := Lib.hid hnl'
    rw [← hnl] at hz ⊢
    rw [← hnl']
    have HC := Lib.hid hc
    have HC' := Lib.hid hc'
    have hnn : (((n : Nat) : Int) != (n : Int)) = false := by simp
    clear hc hc' hn hnl hnl' hz'
    go_enter Tryz.func11, Tryz.ntmps11
    go_wp2_with fail
    go_loopw [5] (fun i wr => ∃ k m : Nat, k ≤ n ∧ i = .int .i64 k ∧ wr = w.drewN m ∧ (∀ (j : Nat) (h1 : j < l.length) (h2 : j < l'.length), j < k → l[j] = l'[j])) (fun i _ => n - (intOf i).toNat)
    case atStart => exact ⟨0, 0, by omega, rfl, rfl, fun j _ _ hj => absurd hj (Nat.not_lt_zero _)⟩
    case round =>
      obtain ⟨k, m, hk, rfl, rfl, hall⟩ := hrel
      have HA := Lib.hid hall
      clear hall
      by_cases hkn : k < n
      · have hk1 : k < l.length := by rw [← HNl.out]; exact hkn
        have hk2 : k < l'.length := by rw [← HNl'.out]; exact hkn
        obtain ⟨b, off, hp, a1⟩ := HC.out k hk1
        obtain ⟨b', off', hp', b1⟩ := HC'.out k hk2
        subst hp hp'
        obtain ⟨x, hx⟩ : ∃ x, x = l[k] := ⟨_, rfl⟩
        obtain ⟨y, hy⟩ : ∃ y, y = l'[k] := ⟨_, rfl⟩
        rw [← hx] at a1
        rw [← hy] at b1
        have HX : Hid (∀ h : k < l.length, x = l[k]) := fun _ => hx
        have HY : Hid (∀ h : k < l'.length, y = l'[k]) := fun _ => hy
        clear hx hy
        have HI : Hid (k < l.length ∧ k < l'.length) := ⟨hk1, hk2⟩
        clear hk1 hk2 hnn
        have hk0 : (0 : Int) ≤ (k : Int) := by omega
        have hki : (k : Int) < (n : Int) := by omega
        by_cases e1 : x = y
        · subst e1
          have q1 : (x != x) = false := by simp
          go_wp2_with fail
          go_quiet (fail)
          go_wp2_with fail
          go_roundw
          case rel =>
            refine ⟨k + 1, _, by omega, by go_num, by first | rfl | (rw [drewN_drewN]), fun j h1 h2 hj => ?_⟩
            by_cases e : j = k
            · subst e; rw [← HX.out h1, ← HY.out h2]
            · exact HA.out j h1 h2 (by omega)
          case measure => simp [intOf]; omega
        · have q1 : (x != y) = true := by rw [bne_iff_ne]; exact e1
          have q2 : (x == y) = false := by rw [beq_eq_false_iff_ne]; exact e1
          have HE : Hid (l ≠ l') := by
            show l ≠ l'
            rintro rfl
            exact e1 ((HX.out HI.out.1).trans (HY.out HI.out.2).symm)
          clear e1
          go_wp2_with fail
          go_quiet (fail)
          go_wp2_with fail
          go_ret
          rw [decide_eq_false HE.out]
          exact ⟨rfl, nbelow_drewM (nbelow_drewN _ _) _⟩
      · have hkn' : k = n := by omega
        have HE : Hid (l = l') := List.ext_getElem HN.out (fun j h1 h2 => HA.out j h1 h2 (by have := HNl.out; omega))
        subst hkn'
        go_wp2_with fail
        go_ret
        rw [decide_eq_true HE.out]
        exact ⟨rfl, nbelow_drewN _ _⟩
  · have HE : Hid (l ≠ l') := fun e => hn (by rw [e])
    have hnn : (((l.length : Nat) : Int) != (l'.length : Int)) = true := by simp; omega
    clear hc hc'
    go_enter Tryz.func11, Tryz.ntmps11
    go_wp2_with fail
    go_ret
    rw [decide_eq_false HE.out]
    exact ⟨rfl, Below.refl _ _⟩
end Go.Proofs.YtbglakhojbhfbaaGreatDoor
