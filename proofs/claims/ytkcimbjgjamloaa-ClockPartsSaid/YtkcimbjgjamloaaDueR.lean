/- The reference's clock: Due. -/
import Derived.Test.YtkcimbjgjamloaaRowsR
namespace Go.Proofs.Ytkcimbjgjamloaa
open Go.RowKit Go.Maps Clk
/-- A slice of rows, in blocks of rows from B on. -/
def RwsB (B : Nat) (w : World) (v : Value) (l : List Rw) : Prop :=
  ∃ p c, v = .slice p l.length c ∧ ∀ i (h : i < l.length), ∃ b off, B ≤ b ∧ p = some ⟨b, off, none⟩ ∧ w.cell? ⟨b, off + i * 2, none⟩ = some (.int .i64 l[i].1) ∧ w.cell? ⟨b, off + i * 2 + 1, none⟩ = some (.int .i64 l[i].2) ∧ ∃ cs fr, w.heap[b]? = some (.cells cs 44 fr)
theorem RwsB.rws {B : Nat} {w : World} {v : Value} {l : List Rw} (h : RwsB B w v l) : Rws w v l := by
  obtain ⟨p, c, hv, hc⟩ := h
  exact ⟨p, c, hv, fun i hi => let ⟨b, off, _, h1, h2, h3, _⟩ := hc i hi; ⟨b, off, h1, h2, h3⟩⟩
theorem RwsB.keep {B : Nat} {w w' : World} {v : Value} {l : List Rw} (h : RwsB B w v l) (hk : ∀ b, B ≤ b → b < w.heap.size → (∃ cs fr, w.heap[b]? = some (.cells cs 44 fr)) → w'.heap[b]? = w.heap[b]?) : RwsB B w' v l := by
  obtain ⟨p, c, hv, hc⟩ := h
  refine ⟨p, c, hv, fun i hi => ?_⟩
  obtain ⟨b, off, hB, hp, h1, h2, h3⟩ := hc i hi
  have hlt := World.block_lt_of_cell? w _ h1
  have hb : w'.heap[b]? = w.heap[b]? := hk b hB hlt h3
  exact ⟨b, off, hB, hp, (World.cell?_of_block hb).trans h1, (World.cell?_of_block hb).trans h2, by rw [hb]; exact h3⟩
theorem RwsB.touch {P : Nat → Prop} {B : Nat} {w w' : World} {v : Value} {l : List Rw} (h : RwsB B w v l) (ht : Touch P w w') (hP : ∀ j, P j → j < B) : RwsB B w' v l :=
  h.keep fun b hB hlt _ => ht.block b hlt (fun hp => by have := hP b hp; omega)
theorem RwsB.below {B : Nat} {w w' : World} {v : Value} {l : List Rw} (h : RwsB B w v l) (hb : Below w.heap.size w w') : RwsB B w' v l := h.touch (P := fun _ => False) (Touch.of_below hb) (fun _ h => h.elim)
theorem RwsB.of_own {w : World} {B : Nat} {v : Value} {l : List Rw} (h : w.ownsRow B 44 2 v l.length (flatR l)) : RwsB B w v l := by
  have hlo := h.lt
  obtain ⟨p, c, hv, hc⟩ := Rws.of_own h
  refine ⟨p, c, hv, fun i hi => ?_⟩
  obtain ⟨b, off, hp, h1, h2⟩ := hc i hi
  refine ⟨b, off, (hlo b (by rw [hv, hp]; rfl)).1, hp, h1, h2, ?_⟩
  obtain ⟨_, hh⟩ := h
  rcases hh with ⟨rfl, h0⟩ | ⟨g, cap, cur, rfl, _, hg, _⟩
  · omega
  · rw [hp] at hv
    have : b = g := by injection hv with e1; injection e1 with e1; injection e1 with e1; exact e1.symm
    subst this
    exact ⟨cur, _, hg⟩
theorem RwsB.mono {B B' : Nat} {w : World} {v : Value} {l : List Rw} (h : RwsB B w v l) (hB : B' ≤ B) : RwsB B' w v l := by
  obtain ⟨p, c, hv, hc⟩ := h
  refine ⟨p, c, hv, fun i hi => ?_⟩
  obtain ⟨b, off, h0, h1, h2⟩ := hc i hi
  exact ⟨b, off, by omega, h1, h2⟩
/-- An append to a slice of numbers leaves the rows. -/
theorem RwsB.grown {B B' : Nat} {w w' : World} {ob : Obj} {v u : Value} {l : List Rw} {n : Nat} {xs : List Value} (h : RwsB B w v l) (hu : w.ownsRow B' 3 1 u n xs) (hg : (w.alloc ob).grownBy w' u.ownBlock) : RwsB B w' v l := by
  refine h.keep fun b _ hlt hrow => ?_
  refine (hg.block b (by simp; omega) (fun e => ?_)).trans (Below.heap_alloc w ob b hlt)
  obtain ⟨cs, fr, hb⟩ := hrow
  obtain ⟨_, hh⟩ := hu
  rcases hh with ⟨rfl, _⟩ | ⟨g, cap, cur, rfl, _, hgg, _⟩
  · cases e
  · have : b = g := by injection e
    subst this
    rw [hgg] at hb
    injection hb with hb
    injection hb with _ ht
    exact absurd ht (by decide)
/-- The best of the first k rows: q; below 0: none is due. -/
def BestS (L : List Rw) (now : Int) (k : Nat) (q : Int) : Prop :=
  (q = -1 ∧ ∀ j (_ : j < L.length), j < k → ¬ L[j].2 ≤ now) ∨
  ∃ (b : Nat) (_ : b < L.length), q = b ∧ b < k ∧ L[b].2 ≤ now ∧ ∀ j (_ : j < L.length), j < k → L[j].2 ≤ now → ¬ (L[j].2 < L[b].2 ∨ L[j].2 = L[b].2 ∧ L[j].1 < L[b].1)
theorem BestS.start (L : List Rw) (now : Int) : BestS L now 0 (-1) := Or.inl ⟨rfl, fun j _ h => absurd h (Nat.not_lt_zero _)⟩
theorem BestS.late {L : List Rw} {now : Int} {k : Nat} {q : Int} (h : BestS L now k q) (hk : k < L.length) (hd : ¬ L[k].2 ≤ now) : BestS L now (k + 1) q := by
  rcases h with ⟨rfl, ha⟩ | ⟨b, hb, rfl, hbk, hbd, ha⟩
  · refine Or.inl ⟨rfl, fun j hj hjk => ?_⟩
    by_cases e : j = k
    · subst e; exact hd
    · exact ha j hj (by omega)
  · refine Or.inr ⟨b, hb, rfl, by omega, hbd, fun j hj hjk hjd => ?_⟩
    by_cases e : j = k
    · subst e; exact absurd hjd hd
    · exact ha j hj (by omega) hjd
theorem BestS.first {L : List Rw} {now : Int} {k : Nat} (h : ∀ j (_ : j < L.length), j < k → ¬ L[j].2 ≤ now) (hk : k < L.length) (hd : L[k].2 ≤ now) : BestS L now (k + 1) k := by
  refine Or.inr ⟨k, hk, rfl, by omega, hd, fun j hj hjk hjd => ?_⟩
  by_cases e : j = k
  · subst e; omega
  · exact absurd hjd (h j hj (by omega))
theorem BestS.better {L : List Rw} {now : Int} {k b : Nat} (hb : b < L.length) (h : ∀ j (_ : j < L.length), j < k → L[j].2 ≤ now → ¬ (L[j].2 < L[b].2 ∨ L[j].2 = L[b].2 ∧ L[j].1 < L[b].1)) (hk : k < L.length) (hd : L[k].2 ≤ now) (hl : L[k].2 < L[b].2 ∨ L[k].2 = L[b].2 ∧ L[k].1 < L[b].1) : BestS L now (k + 1) k := by
  refine Or.inr ⟨k, hk, rfl, by omega, hd, fun j hj hjk hjd => ?_⟩
  by_cases e : j = k
  · subst e; omega
  · have := h j hj (by omega) hjd; omega
theorem BestS.worse {L : List Rw} {now : Int} {k b : Nat} (hb : b < L.length) (hbk : b < k) (hbd : L[b].2 ≤ now) (h : ∀ j (_ : j < L.length), j < k → L[j].2 ≤ now → ¬ (L[j].2 < L[b].2 ∨ L[j].2 = L[b].2 ∧ L[j].1 < L[b].1)) (hk : k < L.length) (hl : ¬ (L[k].2 < L[b].2 ∨ L[k].2 = L[b].2 ∧ L[k].1 < L[b].1)) : BestS L now (k + 1) b := by
  refine Or.inr ⟨b, hb, rfl, by omega, hbd, fun j hj hjk hjd => ?_⟩
  by_cases e : j = k
  · subst e; exact hl
  · exact h j hj (by omega) hjd
theorem without_lt {L : List Rw} {id : Int} {k : Nat} (hk : k < L.length) (h : L[k].1 = id) : (without L id).length < L.length := by
  unfold Clk.without
  apply List.length_filter_lt_length_iff_exists.2
  exact ⟨L[k], List.getElem_mem hk, by simp [h]⟩
theorem own_below {w w' : World} {B : Nat} {e : TypeId} {size : Nat} {v : Value} {n : Nat} {xs : List Value} (h : w.ownsRow B e size v n xs) (hb : Below w.heap.size w w') : w'.ownsRow B e size v n xs :=
  h.kept (w' := w') (row := none) ⟨hb.os, hb.tape, hb.output, hb.size, fun k hk _ => hb.block k hk⟩ (by cases hv : v.ownBlock with
    | none => exact Or.inl rfl
    | some k => exact Or.inr (by simp))
theorem own_sl {w : World} {B : Nat} {e : TypeId} {size : Nat} {v : Value} {n : Nat} {xs : List Value} (h : w.ownsRow B e size v n xs) : ∃ p c, v = .slice p n c := by
  obtain ⟨_, h⟩ := h
  rcases h with ⟨rfl, rfl⟩ | ⟨g, cap, cur, rfl, _⟩
  · exact ⟨_, _, rfl⟩
  · exact ⟨_, _, rfl⟩
theorem drewN_add (w : World) (a b : Nat) : (w.drewN a).drewN b = w.drewN (a + b) := by simp [World.drewN, Nat.add_assoc]
theorem below_of_drew {B : Nat} {a w : World} (h : Below B a w) (n : Nat) : Below B a (w.drewN n) := h.trans ⟨rfl, rfl, rfl, Nat.le_refl _, fun _ _ => rfl⟩
theorem own_drew {w : World} {B : Nat} {e : TypeId} {size : Nat} {v : Value} {n : Nat} {xs : List Value} (h : w.ownsRow B e size v n xs) (m : Nat) : (w.drewN m).ownsRow B e size v n xs := h
theorem rwsB_drew {B : Nat} {w : World} {v : Value} {l : List Rw} (h : RwsB B w v l) (m : Nat) : RwsB B (w.drewN m) v l := h
set_option maxRecDepth 100000 in
set_option maxHeartbeats 4000000 in
theorem rdue_any (B : Nat) (v : Value) (l : List Rw) (now : Int) (w : World) (h : RwsB B w v l) (h1 : One l) (hz : l.length ≤ 1000) (hBw : B ≤ w.heap.size) :
    Calls Try.prog 22 #[v, .int .i64 now] w fun e w' => ∃ u v', e = .returned (.tuple #[u, v']) ∧ NumsB w.heap.size w' u (dueIds l now) ∧ RwsB B w' v' (rest l now) ∧ Below w.heap.size w w' := by
  obtain ⟨i0, hi, hz0, hz1, hz2⟩ := info_parts (show (Try.prog.info? 3).map (fun i => (i.zero, i.size, i.bytes)) = some (some (.int .i64 0), 1, 8) by kernel_rfl)
  obtain ⟨p0, c0, hv0, _⟩ := id h
  have HH := Lib.hid h
  have H1 := Lib.hid h1
  have hv : v = .slice p0 l.length c0 := hv0
  subst hv
  clear h h1 hv0
  go_enter Try.func22, Try.ntmps22
  go_wp2_with fail
  go_loopw [0, 6] (fun v0 u wr => ∃ (L : List Rw) (acc : List Int), RwsB B wr v0 L ∧ wr.ownsRow w.heap.size 3 1 u acc.length (acc.map (Value.int .i64)) ∧ One L ∧ acc ++ dueIds L now = dueIds l now ∧ rest L now = rest l now ∧ Below w.heap.size w wr ∧ w.heap.size ≤ wr.heap.size ∧ acc.length + L.length ≤ 1000) (fun v0 _ _ => match v0 with | .slice _ n _ => n | _ => 0)
  case atStart => exact ⟨l, [], HH.out.touch (P := fun _ => False) ((Touch.refl _ w).alloc _) (fun _ h => h.elim), ⟨rfl, .inr ⟨w.heap.size, 0, #[], rfl, Nat.le_refl _, heap_alloc_new _ _, Nat.le_refl _, Nat.zero_le _, rfl, rfl⟩⟩, H1.out, rfl, rfl, (Below.refl _ _).alloc (Nat.le_refl _) _, by simp, by simpa using hz⟩
  case round =>
    obtain ⟨L, acc, hR, hown, hone, hdue, hrest, hbel, hsz, hlen⟩ := hrel
    obtain ⟨p, c, hv0, hc⟩ := id hR
    subst hv0
    obtain ⟨wo, rfl⟩ : ∃ wo : World, wo = wr := ⟨_, rfl⟩
    obtain ⟨n, hn⟩ : ∃ n, n = L.length := ⟨_, rfl⟩
    have HN := Lib.hid hn
    rw [← hn] at hlen ⊢
    have HC := Lib.hid hc
    have HX := Lib.hid (And.intro hR (And.intro hown (And.intro hone (And.intro hdue (And.intro hrest (And.intro hbel hsz))))))
    clear hR hown hone hdue hrest hbel hsz hc hn
    go_wp2_with fail
    go_loopw [7, 8] (fun bv iv wr => ∃ (k m : Nat) (q : Int), k ≤ n ∧ iv = .int .i64 k ∧ bv = .int .i64 q ∧ wr = wo.drewN m ∧ BestS L now k q) (fun _ iv _ => n - (intOf iv).toNat)
    case atStart => exact ⟨0, 0, -1, Nat.zero_le _, rfl, rfl, rfl, BestS.start _ _⟩
    case round =>
      obtain ⟨k, m, q, hk, rfl, rfl, rfl, hbest⟩ := hrel
      by_cases hkn : k < n
      · have hkl : k < L.length := by rw [← HN.out]; exact hkn
        obtain ⟨b0, off, hB0, hp, a1, a2, _⟩ := HC.out k hkl
        subst hp
        obtain ⟨x, hx⟩ : ∃ x, x = L[k] := ⟨_, rfl⟩
        rw [← hx] at a1 a2
        have HK : Hid (∀ P : Rw → Prop, P x → ∀ h : k < L.length, P L[k]) := fun P hP _ => by rw [← hx]; exact hP
        have HKL := Lib.hid hkl
        clear hx
        obtain ⟨x1, x2⟩ := x
        dsimp only at a1 a2
        have hk0 : (0 : Int) ≤ (k : Int) := by omega
        have hki : (k : Int) < (n : Int) := by omega
        by_cases hd : x2 ≤ now
        · have hd1 : decide (x2 ≤ now) = true := by simpa using hd
          have HD := Lib.hid (HK.out (fun z => z.2 ≤ now) hd hkl)
          rcases hbest with ⟨rfl, ha⟩ | ⟨b, hb, rfl, hbk, hbd, ha⟩
          · have HBE := Lib.hid (BestS.first ha hkl HD.out)
            clear ha HD hkl hd
            go_wp2_with fail
            go_quiet (fail)
            go_wp2_with fail
            go_roundw
            case rel => exact ⟨k + 1, _, _, by omega, by go_num, rfl, rfl, HBE.out⟩
            case measure => simp [intOf]; omega
          · obtain ⟨bb, off', hB', hp', b1, b2, _⟩ := HC.out b hb
            cases hp'
            obtain ⟨y, hy⟩ : ∃ y, y = L[b] := ⟨_, rfl⟩
            rw [← hy] at b1 b2
            have HY : Hid (∀ P : Rw → Prop, P y → P L[b]) := fun P hP => by rw [← hy]; exact hP
            have HXY : Hid (∀ P : Rw → Rw → Prop, P (x1, x2) y → P L[k] L[b]) := fun P hP => HK.out (fun z => P z L[b]) (HY.out (fun z => P (x1, x2) z) hP) hkl
            clear hy
            obtain ⟨y1, y2⟩ := y
            dsimp only at b1 b2
            have hb0 : (0 : Int) ≤ (b : Int) := by omega
            have hbn : decide ((b : Int) < 0) = false := by simp
            have hbi : (b : Int) < (n : Int) := by omega
            have HBS := Lib.hid (And.intro hb (And.intro hbk (And.intro hbd ha)))
            clear hd
            by_cases e1 : x2 < y2
            · have g1 : decide (x2 < y2) = true := by simpa using e1
              have HBE := Lib.hid (BestS.better hb ha hkl HD.out (HXY.out (fun s t => s.2 < t.2 ∨ s.2 = t.2 ∧ s.1 < t.1) (Or.inl e1)))
              clear HD HXY HY HBS ha hkl hb hbk hbd e1
              go_wp2_with fail
              go_quiet (fail)
              go_wp2_with fail
              go_roundw
              case rel => exact ⟨k + 1, _, _, by omega, by go_num, rfl, rfl, HBE.out⟩
              case measure => simp [intOf]; omega
            · have g1 : decide (x2 < y2) = false := by simpa using e1
              by_cases e2 : x2 = y2
              · by_cases e3 : x1 < y1
                · have g3 : decide (x1 < y1) = true := by simpa using e3
                  have HBE := Lib.hid (BestS.better hb ha hkl HD.out (HXY.out (fun s t => s.2 < t.2 ∨ s.2 = t.2 ∧ s.1 < t.1) (Or.inr ⟨e2, e3⟩)))
                  have g2 : (x2 == y2) = true := by simpa using e2
                  clear HD HXY HY HBS ha hkl hb hbk hbd e1 e2 e3
                  go_wp2_with fail
                  go_quiet (fail)
                  go_wp2_with fail
                  go_roundw
                  case rel => exact ⟨k + 1, _, _, by omega, by go_num, rfl, rfl, HBE.out⟩
                  case measure => simp [intOf]; omega
                · have g3 : decide (x1 < y1) = false := by simpa using e3
                  have HBE := Lib.hid (BestS.worse hb hbk hbd ha hkl (HXY.out (fun s t => ¬ (s.2 < t.2 ∨ s.2 = t.2 ∧ s.1 < t.1)) (by dsimp only; omega)))
                  have g2 : (x2 == y2) = true := by simpa using e2
                  clear HD HXY HY HBS ha hkl hb hbk hbd e1 e2 e3
                  go_wp2_with fail
                  go_quiet (fail)
                  go_wp2_with fail
                  go_roundw
                  case rel => exact ⟨k + 1, _, _, by omega, by go_num, rfl, rfl, HBE.out⟩
                  case measure => simp [intOf]; omega
              · have HBE := Lib.hid (BestS.worse hb hbk hbd ha hkl (HXY.out (fun s t => ¬ (s.2 < t.2 ∨ s.2 = t.2 ∧ s.1 < t.1)) (by dsimp only; omega)))
                have g2 : (x2 == y2) = false := by rw [beq_eq_false_iff_ne]; exact e2
                clear HD HXY HY HBS ha hkl hb hbk hbd e1 e2
                go_wp2_with fail
                go_quiet (fail)
                go_wp2_with fail
                go_roundw
                case rel => exact ⟨k + 1, _, _, by omega, by go_num, rfl, rfl, HBE.out⟩
                case measure => simp [intOf]; omega
        · have hd1 : decide (x2 ≤ now) = false := by simpa using hd
          have HBE := Lib.hid (hbest.late hkl (HK.out (fun z => ¬ z.2 ≤ now) hd hkl))
          clear hbest hkl hd
          go_wp2_with fail
          go_quiet (fail)
          go_wp2_with fail
          go_roundw
          case rel => exact ⟨k + 1, _, _, by omega, by go_num, rfl, rfl, HBE.out⟩
          case measure => simp [intOf]; omega
      · have hkn' : k = n := by omega
        have HBE := Lib.hid hbest
        have HA : Hid (∀ j (_ : j < L.length), j < k) := fun j hj => by have := HN.out; omega
        clear hkn
        rcases hbest with ⟨rfl, ha⟩ | ⟨b, hb, rfl, hbk, hbd, ha⟩
        · obtain ⟨d1, d2⟩ := due_none now (l := L) (fun z hz => by
            obtain ⟨j, hj, rfl⟩ := List.getElem_of_mem hz
            exact ha j hj (HA.out j hj))
          have HDN := Lib.hid (And.intro d1 d2)
          clear ha d1 d2
          subst hkn'
          go_wp2_with fail
          go_ret2
          have hw := HX.out.2.2.2.1
          rw [HDN.out.1, List.append_nil] at hw
          refine ⟨_, _, rfl, ?_, ?_, below_of_drew HX.out.2.2.2.2.2.1 m⟩
          · rw [← hw]; exact NumsB.of_own (own_drew HX.out.2.1 m)
          · rw [← HX.out.2.2.2.2.1, HDN.out.2]
            have hR := rwsB_drew HX.out.1 m
            rw [← HN.out] at hR
            exact hR
        · obtain ⟨bb, off', hB', hp', b1, b2, _⟩ := HC.out b hb
          subst hp'
          have hdc := due_cons HX.out.2.2.1 (List.getElem_mem hb) now hbd (fun z hz hzd => by
            obtain ⟨j, hj, rfl⟩ := List.getElem_of_mem hz
            exact ha j hj (HA.out j hj) hzd)
          have hwl := without_lt hb rfl
          have hww : ∀ W, Rws W (.slice (some ⟨bb, off', none⟩) n c) L → Calls Try.prog 17 #[.slice (some ⟨bb, off', none⟩) n c, .int .i64 L[b].1] W fun e w' => ∃ v', e = .returned v' ∧ w'.ownsRow W.heap.size 44 2 v' (without L L[b].1).length (flatR (without L L[b].1)) ∧ Below W.heap.size W w' := fun W hW => rwithout_any _ L _ W hW (by have := HN.out; omega)
          obtain ⟨y, hy⟩ : ∃ y, y = L[b].1 := ⟨_, rfl⟩
          rw [← hy] at b1 hdc hwl hww
          have HYE : Hid (∀ h : b < L.length, L[b].1 = y) := fun _ => hy.symm
          have hBL := Lib.hid hb
          have HDC := Lib.hid hdc
          have HWL := Lib.hid hwl
          have HWW := Lib.hid hww
          have hb0 : (0 : Int) ≤ (b : Int) := by omega
          have hbn : decide ((b : Int) < 0) = false := by simp
          have hbi : (b : Int) < (n : Int) := by have := HN.out; omega
          clear ha hdc hwl hww hy hb hbk hbd b2 HBE
          subst hkn'
          go_wp2_with (at_builtin; refine wpList_append_own _ rfl _ _ 49 rfl w.heap.size 3 i0 (.int .i64 0) 1 8 Try.underlying49 hi hz0 hz1 hz2 rfl (by decide) _ _ _ rfl ((own_drew HX.out.2.1 m).alloc _) ⟨wo.heap.size, 0, none⟩ 1 1 [.int .i64 y] rfl rfl ?c1 ?c2 ?c3 ?c4 ?c5 ?_)
          case c1 => exact World.news_of_block (cs := #[.int .i64 y]) (t := 3) (fr := (0, 0)) (heap_alloc_new (wo.drewN m) _)
          case c2 => intro u hu; simp at hu; subst hu; rfl
          case c3 => unfold maxLen; omega
          case c4 => omega
          case c5 => have := HX.out.2.2.2.2.2.2; simp [World.drewN]; omega
          intro v' w1 hown' hgrow _
          have hsz := HX.out.2.2.2.2.2.2
          have hlo := ((own_drew HX.out.2.1 m).alloc (.cells #[.int .i64 y] 3)).lt
          have hb1 : Below w.heap.size w w1 := ((below_of_drew HX.out.2.2.2.2.2.1 m).alloc (by simpa [World.drewN] using hsz) _).grown hgrow (by simp [World.drewN]; omega) (fun g hg => (hlo g hg).1)
          have hs1 : w.heap.size ≤ w1.heap.size := by have h1 := hgrow.size; simp [World.drewN] at h1; omega
          have hR1 : RwsB B w1 (.slice (some ⟨bb, off', none⟩) k c) L := by
            have hR := rwsB_drew HX.out.1 m
            rw [← HN.out] at hR
            exact RwsB.grown hR (own_drew HX.out.2.1 m) hgrow
          have HO1 := Lib.hid (And.intro hown' (And.intro hb1 (And.intro hs1 hR1)))
          have b1' : w1.cell? ⟨bb, off' + b * 2, none⟩ = some (.int .i64 y) := by
            obtain ⟨p2, c2, hv2, hc2⟩ := hR1
            obtain ⟨b3, o3, _, e3, f1, _⟩ := hc2 b hBL.out
            cases hv2
            cases e3
            rw [f1, HYE.out hBL.out]
          clear hown' hgrow hb1 hs1 hR1 hlo hsz b1
          go_wp2_with (go_at_call 17; refine (HWW.out _ HO1.out.2.2.2.rws).mono ?_; rintro e' w2 ⟨v2, rfl, ho2, hb2⟩; have HO2 := Lib.hid (And.intro ho2 hb2); clear ho2 hb2)
          have hsz2 : B ≤ w1.heap.size := by have := HO1.out.2.2.1; omega
          have hls := HWL.out
          have hln : (without L y).length < k := by have := HN.out; omega
          have hacc : acc.length + 1 + (without L y).length ≤ 1000 := by omega
          go_roundw
          case rel =>
            refine ⟨without L y, acc ++ [y], (RwsB.of_own HO2.out.1).mono hsz2, ?_, HX.out.2.2.1.without y, ?_, HDC.out.2.trans HX.out.2.2.2.2.1, HO1.out.2.1.trans (HO2.out.2.mono HO1.out.2.2.1), Nat.le_trans HO1.out.2.2.1 HO2.out.2.size, by simp; omega⟩
            · have := own_below HO1.out.1 HO2.out.2
              rw [List.length_append, List.map_append]
              exact this
            · rw [List.append_assoc, ← HX.out.2.2.2.1, HDC.out.1]; rfl
          case measure =>
            obtain ⟨p4, c4, hv4⟩ := own_sl HO2.out.1
            rw [hv4]
            exact hln
end Go.Proofs.Ytkcimbjgjamloaa
