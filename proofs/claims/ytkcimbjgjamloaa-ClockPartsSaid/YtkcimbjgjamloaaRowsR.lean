/- The reference's clock: slices of rows; Without, Left. -/
import Derived.Test.YtkcimbjgjamloaaClockSet
import Derived.Test.YtkcimbjgjamloaaNums
import Derived.Deep.AppendLies
namespace Go.Proofs.Ytkcimbjgjamloaa
open Go.RowKit Go.Maps Clk
/-- v is a slice that reads as these rows. -/
def Rws (w : World) (v : Value) (l : List Rw) : Prop :=
  ∃ p c, v = .slice p l.length c ∧ ∀ i (h : i < l.length), ∃ b off, p = some ⟨b, off, none⟩ ∧ w.cell? ⟨b, off + i * 2, none⟩ = some (.int .i64 l[i].1) ∧ w.cell? ⟨b, off + i * 2 + 1, none⟩ = some (.int .i64 l[i].2)
theorem Rws.of_touch {P : Nat → Prop} {B : Nat} {w w' : World} {v : Value} {l : List Rw} (h : ∃ p c, v = .slice p l.length c ∧ ∀ i (h : i < l.length), ∃ b off, B ≤ b ∧ p = some ⟨b, off, none⟩ ∧ w.cell? ⟨b, off + i * 2, none⟩ = some (.int .i64 l[i].1) ∧ w.cell? ⟨b, off + i * 2 + 1, none⟩ = some (.int .i64 l[i].2)) (ht : Touch P w w') (hP : ∀ j, P j → j < B) : Rws w' v l := by
  obtain ⟨p, c, hv, hc⟩ := h
  refine ⟨p, c, hv, fun i hi => ?_⟩
  obtain ⟨b, off, hB, hp, h1, h2⟩ := hc i hi
  have hlt := World.block_lt_of_cell? w _ h1
  have hb : w'.heap[b]? = w.heap[b]? := ht.block b hlt (fun hp => by have := hP b hp; omega)
  exact ⟨b, off, hp, (World.cell?_of_block hb).trans h1, (World.cell?_of_block hb).trans h2⟩
theorem Rws.below {w w' : World} {v : Value} {l : List Rw} (h : Rws w v l) (hb : Below w.heap.size w w') : Rws w' v l := by
  obtain ⟨p, c, hv, hc⟩ := h
  refine ⟨p, c, hv, fun i hi => ?_⟩
  obtain ⟨b, off, hp, h1, h2⟩ := hc i hi
  have hlt := World.block_lt_of_cell? w _ h1
  exact ⟨b, off, hp, ((bcell hb) b _ hlt).trans h1, ((bcell hb) b _ hlt).trans h2⟩
theorem Rws.nil (w : World) (p : Option Addr) (c : Nat) : Rws w (.slice p 0 c) [] := ⟨p, c, rfl, fun i hi => absurd hi (Nat.not_lt_zero _)⟩
/-- The cells of some rows. -/
def flatR (l : List Rw) : List Value := l.flatMap fun p => [.int .i64 p.1, .int .i64 p.2]
theorem flatR_length (l : List Rw) : (flatR l).length = l.length * 2 := by
  induction l with
  | nil => rfl
  | cons a l ih => unfold flatR at ih ⊢; rw [List.flatMap_cons, List.length_append, ih]; simp; omega
theorem flatR_at (l : List Rw) : ∀ (i : Nat) (h : i < l.length), (flatR l)[i * 2]? = some (.int .i64 l[i].1) ∧ (flatR l)[i * 2 + 1]? = some (.int .i64 l[i].2) := by
  induction l with
  | nil => intro i h; exact absurd h (Nat.not_lt_zero _)
  | cons a l ih =>
    intro i h
    have e : flatR (a :: l) = .int .i64 a.1 :: .int .i64 a.2 :: flatR l := rfl
    rw [e]
    cases i with
    | zero => exact ⟨rfl, rfl⟩
    | succ i =>
      have := ih i (by simpa using h)
      rw [show (i + 1) * 2 = i * 2 + 2 by omega]
      simpa using this
theorem flatR_append (l m : List Rw) : flatR (l ++ m) = flatR l ++ flatR m := by unfold flatR; rw [List.flatMap_append]
theorem Rws.of_own {w : World} {B : Nat} {t : TypeId} {v : Value} {l : List Rw} (h : w.ownsRow B t 2 v l.length (flatR l)) : Rws w v l := by
  obtain ⟨_, h⟩ := h
  rcases h with ⟨rfl, h0⟩ | ⟨g, cap, cur, rfl, _, hg, h1, h2, h3, h4⟩
  · have : l = [] := List.eq_nil_of_length_eq_zero h0
    subst this
    exact Rws.nil _ _ _
  · refine ⟨_, cap, rfl, fun i hi => ⟨g, 0, rfl, ?_⟩⟩
    obtain ⟨a, b⟩ := flatR_at l i hi
    rw [← h4] at a b
    rw [List.getElem?_take, if_pos (by omega)] at a b
    simp only [World.cell?, hg, Nat.zero_add]
    simp only [Array.getElem?_toList] at a b
    exact ⟨a, b⟩
theorem info_row : (Try.prog.info? 44).map (fun i => (i.zero, i.size, i.bytes)) = some (some (.agg #[.int .i64 0, .int .i64 0]), 2, 16) := by kernel_rfl
theorem without_take (l : List Rw) (id : Int) (k : Nat) (h : k < l.length) : without (l.take (k + 1)) id = if l[k].1 = id then without (l.take k) id else without (l.take k) id ++ [l[k]] := by
  rw [List.take_succ_eq_append_getElem h]
  unfold Clk.without
  rw [List.filter_append]
  split
  · rename_i e; simp [e]
  · rename_i e; simp [e]
set_option maxRecDepth 100000 in
theorem rwithout_any (v : Value) (l : List Rw) (id : Int) (w : World) (h : Rws w v l) (hz : l.length ≤ 1000) :
    Calls Try.prog 17 #[v, .int .i64 id] w fun e w' => ∃ v', e = .returned v' ∧ w'.ownsRow w.heap.size 44 2 v' (without l id).length (flatR (without l id)) ∧ Below w.heap.size w w' := by
  obtain ⟨p, c, rfl, hc⟩ := h
  obtain ⟨i0, hi, hz0, hz1, hz2⟩ := info_parts info_row
  obtain ⟨n, hnl⟩ : ∃ n, n = l.length := ⟨_, rfl⟩
  have HNl := Lib.hid hnl
  rw [← hnl] at hz ⊢
  have HC := Lib.hid hc
  clear hc hnl
  go_enter Try.func17, Try.ntmps17
  go_wp2_with fail
  go_loopw [5, 6] (fun v i wr => ∃ k : Nat, k ≤ n ∧ i = .int .i64 k ∧ wr.ownsRow w.heap.size 44 2 v (without (l.take k) id).length (flatR (without (l.take k) id)) ∧ Below w.heap.size w wr ∧ w.heap.size ≤ wr.heap.size) (fun _ i _ => n - (intOf i).toNat)
  case atStart => exact ⟨0, Nat.zero_le _, rfl, ⟨rfl, .inr ⟨w.heap.size, 0, #[], rfl, Nat.le_refl _, heap_alloc_new _ _, Nat.le_refl _, Nat.zero_le _, rfl, rfl⟩⟩, (Below.refl _ _).alloc (Nat.le_refl _) _, by simp⟩
  case round =>
    obtain ⟨k, hk, rfl, hown, hbel, hsz⟩ := hrel
    have hlen : (without (l.take k) id).length ≤ 1000 := by
      have h1 : (without (l.take k) id).length ≤ (l.take k).length := List.length_filter_le _ _
      rw [List.length_take] at h1
      have := HNl.out
      omega
    have HO := Lib.hid hown
    have HB := Lib.hid hbel
    have HS := Lib.hid hsz
    clear hown hbel hsz
    by_cases hkn : k < n
    · have hkl : k < l.length := by rw [← HNl.out]; exact hkn
      obtain ⟨b, off, hp, a1, a2⟩ := HC.out k hkl
      subst hp
      have hbl := World.block_lt_of_cell? w _ a1
      have b1 := ((fun o => HB.out.cell (p := ⟨b, o, none⟩) hbl) _).trans a1
      have b2 := ((fun o => HB.out.cell (p := ⟨b, o, none⟩) hbl) _).trans a2
      have HW := Lib.hid (without_take l id k hkl)
      obtain ⟨x, hx⟩ : ∃ x, x = l[k] := ⟨_, rfl⟩
      rw [← hx] at b1 b2 HW
      clear a1 a2 hx hbl hkl
      obtain ⟨x1, x2⟩ := x
      dsimp only at b1 b2 HW
      have hk0 : (0 : Int) ≤ (k : Int) := by omega
      have hki : (k : Int) < (n : Int) := by omega
      by_cases e : x1 = id
      · have HE := HW.out
        rw [if_pos e] at HE
        have HE := Lib.hid HE
        have e1 : (x1 != id) = false := by simp [e]
        clear HW e
        go_wp2_with fail
        go_roundw
        case rel => exact ⟨k + 1, by omega, by go_num, by rw [HE.out]; exact HO.out, HB.out, HS.out⟩
        case measure => simp [intOf]; omega
      · have HE := HW.out
        rw [if_neg e] at HE
        have HE := Lib.hid HE
        have e1 : (x1 != id) = true := by rw [bne_iff_ne]; exact e
        clear HW e
        go_wp2_with (at_builtin; refine wpList_append_own _ rfl _ _ 37 rfl w.heap.size 44 i0 _ 2 16 Try.underlying37 hi hz0 hz1 hz2 rfl (by decide) _ _ _ rfl (HO.out.alloc _) ⟨wr.heap.size, 0, none⟩ 1 1 [.int .i64 x1, .int .i64 x2] rfl rfl ?c1 ?c2 ?c3 ?c4 ?c5 ?_)
        case c1 => exact World.news_of_block (cs := #[.int .i64 x1, .int .i64 x2]) (t := 44) (fr := (0, 0)) (heap_alloc_new wr _)
        case c2 => simp [Value.oneCell']
        case c3 => unfold maxLen; omega
        case c4 => omega
        case c5 => have := HS.out; simp; omega
        intro v' w1 hown' hgrow _
        have hlo := (HO.out.alloc (.cells #[.int .i64 x1, .int .i64 x2] 44)).lt
        have hb1 : Below w.heap.size w w1 := (HB.out.alloc HS.out _).grown hgrow (by have := HS.out; simp; omega) (fun g hg => (hlo g hg).1)
        have hs1 : w.heap.size ≤ w1.heap.size := by have h1 := hgrow.size; have := HS.out; simp at h1; omega
        have HO' := Lib.hid hown'
        have HB' := Lib.hid hb1
        have HS' := Lib.hid hs1
        clear hown' hgrow hlo hb1 hs1
        go_wp2_with fail
        go_roundw
        case rel =>
          refine ⟨k + 1, by omega, by go_num, ?_, HB'.out, HS'.out⟩
          rw [HE.out, List.length_append, flatR_append]
          exact HO'.out
        case measure => simp [intOf]; omega
    · have hke : k = n := by omega
      subst hke
      have e : l.take k = l := by rw [HNl.out]; exact List.take_length
      have HE := Lib.hid e
      clear e
      go_wp2_with fail
      go_ret
      refine ⟨_, rfl, ?_, HB.out⟩
      have := HO.out
      rw [HE.out] at this
      exact this
theorem leftAt_take {l : List Rw} {id : Int} {k : Nat} (h : k < l.length) (hn : ∀ (j : Nat) (hj : j < l.length), j < k → l[j].1 ≠ id) (he : l[k].1 = id) : leftAt l id = some l[k].2 := by
  have hs : l = l.take k ++ l[k] :: l.drop (k + 1) := by rw [← List.drop_eq_getElem_cons h, List.take_append_drop]
  unfold leftAt
  conv => lhs; rw [hs]
  rw [List.find?_append]
  have h1 : (l.take k).find? (fun p => p.1 == id) = none := by
    rw [List.find?_eq_none]
    intro p hp
    obtain ⟨j, hj, rfl⟩ := List.getElem_of_mem hp
    rw [List.getElem_take]
    rw [List.length_take] at hj
    simpa using hn j (by omega) (by omega)
  rw [h1, List.find?_cons]
  simp [he]
theorem leftAt_all {l : List Rw} {id : Int} (hn : ∀ (j : Nat) (hj : j < l.length), l[j].1 ≠ id) : leftAt l id = none :=
  leftAt_none.2 fun p hp => by
    obtain ⟨j, hj, rfl⟩ := List.getElem_of_mem hp
    exact hn j hj
set_option maxRecDepth 100000 in
theorem rleft_any (v : Value) (l : List Rw) (id now : Int) (w : World) (h : Rws w v l) (hz : l.length ≤ 1000) (h1 : -1125899906842624 ≤ now) (h2 : now ≤ 1125899906842624) (hl : ∀ p ∈ l, -1125899906842624 ≤ p.2 ∧ p.2 ≤ 1125899906842624) :
    Calls Try.prog 21 #[v, .int .i64 id, .int .i64 now] w fun e w' => e = .returned (leftV now (leftAt l id)) ∧ w = w' := by
  obtain ⟨p, c, rfl, hc⟩ := h
  obtain ⟨n, hnl⟩ : ∃ n, n = l.length := ⟨_, rfl⟩
  have HNl := Lib.hid hnl
  rw [← hnl] at hz ⊢
  have HC := Lib.hid hc
  have HL := Lib.hid hl
  clear hc hnl hl
  go_enter Try.func21, Try.ntmps21
  go_wp2_with fail
  go_loop [8] (fun i => ∃ k : Nat, k ≤ n ∧ i = .int .i64 k ∧ ∀ (j : Nat) (hj : j < l.length), j < k → l[j].1 ≠ id) (fun i => n - (intOf i).toNat)
  case atStart => exact ⟨0, Nat.zero_le _, rfl, fun j _ hj => absurd hj (Nat.not_lt_zero _)⟩
  case round =>
    obtain ⟨k, hk, rfl, hno⟩ := hrel
    have HN := Lib.hid hno
    clear hno
    by_cases hkn : k < n
    · have hkl : k < l.length := by rw [← HNl.out]; exact hkn
      obtain ⟨b, off, hp, a1, a2⟩ := HC.out k hkl
      subst hp
      have hb := HL.out l[k] (List.getElem_mem hkl)
      have HT : Hid (∀ h : k < l.length, l[k].1 = id → leftAt l id = some l[k].2) := fun h he => leftAt_take h HN.out he
      obtain ⟨x, hx⟩ : ∃ x, x = l[k] := ⟨_, rfl⟩
      have HX : Hid (∀ h : k < l.length, x = l[k]) := fun _ => hx
      rw [← hx] at a1 a2 hb
      have HK := Lib.hid hkl
      clear hx hkl
      obtain ⟨x1, x2⟩ := x
      dsimp only at a1 a2 hb
      have hb1 := hb.1
      have hb2 := hb.2
      have hk0 : (0 : Int) ≤ (k : Int) := by omega
      have hki : (k : Int) < (n : Int) := by omega
      clear hb
      by_cases e : x1 = id
      · have HV : Hid (leftV now (leftAt l id) = .tuple #[.int .i64 (x2 - now), .bool true]) := by
          show leftV now (leftAt l id) = _
          have e1 := HX.out HK.out
          rw [HT.out HK.out (by rw [← e1]; exact e), ← e1]
          rfl
        have e1 : (x1 == id) = true := by simp [e]
        clear e
        go_wp2_with fail
        go_ret2
        rw [HV.out]
        exact ⟨rfl, rfl⟩
      · have e1 : (x1 == id) = false := by rw [beq_eq_false_iff_ne]; exact e
        have HE := Lib.hid e
        clear e
        go_wp2_with fail
        go_round
        case rel =>
          refine ⟨k + 1, by omega, by go_num, fun j hj hjk => ?_⟩
          by_cases ej : j = k
          · subst ej
            rw [← HX.out hj]
            exact HE.out
          · exact HN.out j hj (by omega)
        case measure => simp [intOf]; omega
    · have hke : k = n := by omega
      have HV : Hid (leftV now (leftAt l id) = .tuple #[.int .i64 0, .bool false]) := by
        show leftV now (leftAt l id) = _
        rw [leftAt_all fun j hj => HN.out j hj (by have := HNl.out; omega)]
        rfl
      subst hke
      go_wp2_with fail
      go_ret2
      rw [HV.out]
      exact ⟨rfl, rfl⟩
end Go.Proofs.Ytkcimbjgjamloaa
