/- The reference's reading of lines and of a head. -/
import Derived.Test.YtmoofcmmpemdcaaGreatDoorHdA
set_option linter.unusedSimpArgs false
set_option linter.unusedVariables false
namespace Go.Proofs.YtmoofcmmpemdcaaGreatDoor
open Go.RowKit
/-- How many octets these lines are. -/
def lsum (ls : List (List UInt8)) : Nat := (ls.map fun x => x.length + 2).sum
theorem lsum_snoc (ls : List (List UInt8)) (x : List UInt8) : lsum (ls ++ [x]) = lsum ls + x.length + 2 := by
  unfold lsum
  simp
  omega
theorem lsum_take (ls : List (List UInt8)) (k : Nat) : lsum (ls.take k) ≤ lsum ls := by
  have h : lsum ls = lsum (ls.take k) + lsum (ls.drop k) := by
    unfold lsum
    rw [← List.sum_append, ← List.map_append, List.take_append_drop]
  omega
theorem lsum_len (ls : List (List UInt8)) : ls.length ≤ lsum ls := by
  unfold lsum
  induction ls with
  | nil => exact Nat.le_refl _
  | cons x r ih =>
    simp at ih ⊢
    omega
theorem bt_list {S : ByteArray} {k : Nat} (hlt : k < S.size) {c : UInt8} (hc : S.data.toList[k]? = some c) : bt S k = c.toNat := by
  unfold bt
  rw [dif_pos hlt]
  have : S.data.toList[k]? = some S[k] := by rw [List.getElem?_eq_getElem (by rw [← Lib.size_eq]; exact hlt)]; rfl
  rw [this] at hc
  injection hc with hc
  rw [hc]
theorem beq_u8 (c n : UInt8) (m : Int) (hm : m = n.toNat) : decide (c = n) = ((c.toNat : Int) == m) := by
  subst hm
  by_cases e : c = n
  · subst e
    rw [decide_eq_true rfl]
    simp
  · rw [decide_eq_false e, eq_comm, beq_eq_false_iff_ne]
    intro k
    exact e (UInt8.toNat_inj.1 (by omega))
/-- What the loop of the reference's Read holds ahead of octet k. -/
structure RdSt (most : Int) (l : List UInt8) (R : List (List UInt8) × Bool × Nat × Int) (k f : Nat) (ls : List (List UInt8)) (cur : List UInt8) (turn : Bool) : Prop where
  r : R = (ls ++ (rdL most (l.drop k) k cur turn).1, (rdL most (l.drop k) k cur turn).2)
  n : f + cur.length + (if turn = true then 1 else 0) = k
  t : (l.drop f).take (k - f) = cur ++ (if turn = true then [13] else [])
  c : (13 : UInt8) ∉ cur
  s : lsum ls = f
theorem RdSt.start (most : Int) (l : List UInt8) : RdSt most l (rdL most l 0 [] false) 0 0 [] [] false := ⟨rfl, rfl, by simp, by simp, rfl⟩
theorem RdSt.le {most : Int} {l : List UInt8} {R : List (List UInt8) × Bool × Nat × Int} {k f : Nat} {ls : List (List UInt8)} {cur : List UInt8} {turn : Bool} (h : RdSt most l R k f ls cur turn) : f ≤ k := by
  have := h.n
  omega
theorem RdSt.within {most : Int} {l : List UInt8} {R : List (List UInt8) × Bool × Nat × Int} {k f : Nat} {ls : List (List UInt8)} {cur : List UInt8} {turn : Bool} (h : RdSt most l R k f ls cur turn) : (!cur.isEmpty || turn) = decide (f < k) := by
  have hn := h.n
  cases cur with
  | nil =>
    cases turn with
    | true => simp at hn ⊢; omega
    | false => simp at hn ⊢; omega
  | cons x r =>
    simp at hn ⊢
    omega
/-- The octet ahead. -/
theorem RdSt.last {most : Int} {l : List UInt8} {R : List (List UInt8) × Bool × Nat × Int} {k f : Nat} {ls : List (List UInt8)} {cur : List UInt8} {turn : Bool} (h : RdSt most l R k f ls cur turn) (hf : f < k) (hk : k ≤ l.length) {x : UInt8} (hx : l[k - 1]? = some x) : decide (x = 13) = turn := by
  have ht := h.t
  have hlen : ((l.drop f).take (k - f)).length = k - f := by rw [List.length_take, List.length_drop]; omega
  have hlast : ((l.drop f).take (k - f))[k - f - 1]? = some x := by
    rw [List.getElem?_take_of_lt (by omega), List.getElem?_drop, show f + (k - f - 1) = k - 1 by omega]
    exact hx
  rw [ht] at hlast hlen
  have hn := h.n
  cases turn with
  | true =>
    simp only [if_true] at hlast hn
    rw [List.getElem?_append_right (by omega), show k - f - 1 - cur.length = 0 by omega] at hlast
    simp at hlast
    rw [← hlast]
    rfl
  | false =>
    simp only [Bool.false_eq_true, if_false, List.append_nil] at hlast hn
    have hm := List.mem_of_getElem? hlast
    refine decide_eq_false (fun e => h.c ?_)
    rw [← e]
    exact hm
theorem take_one_more {α : Type} (l : List α) (f k : Nat) (hf : f ≤ k) {c : α} (hc : l[k]? = some c) : (l.drop f).take (k + 1 - f) = (l.drop f).take (k - f) ++ [c] := by
  have h1 : (l.drop f)[k - f]? = some c := by rw [List.getElem?_drop, show f + (k - f) = k by omega]; exact hc
  obtain ⟨hl, he⟩ := List.getElem?_eq_some_iff.1 h1
  rw [show k + 1 - f = k - f + 1 by omega, List.take_succ_eq_append_getElem hl, he]
theorem drop_at {α : Type} (l : List α) (k : Nat) {c : α} (hc : l[k]? = some c) : l.drop k = c :: l.drop (k + 1) := by
  obtain ⟨hl, he⟩ := List.getElem?_eq_some_iff.1 hc
  rw [List.drop_eq_getElem_cons hl, he]
section
variable {most : Int} {l : List UInt8} {R : List (List UInt8) × Bool × Nat × Int} {k f : Nat} {ls : List (List UInt8)} {cur : List UInt8} {turn : Bool}
theorem RdSt.long (h : RdSt most l R k f ls cur turn) {c : UInt8} (hc : l[k]? = some c) (hm : (k : Int) = most) : R = (ls, decide (f < k), k, 4) := by
  rw [h.r, drop_at l k hc, rdL, if_pos hm, h.within]
  simp
theorem RdSt.wrong (h : RdSt most l R k f ls cur turn) {c : UInt8} (hc : l[k]? = some c) (hm : (k : Int) ≠ most) (hw : turn ≠ decide (c = 10)) : R = (ls, decide (f < k), k, 8) := by
  rw [h.r, drop_at l k hc, rdL, if_neg hm, if_pos hw, h.within]
  simp
theorem RdSt.stop (h : RdSt most l R k f ls cur turn) (hk : l.length ≤ k) : R = (ls, decide (f < k), k, 0) := by
  rw [h.r, List.drop_of_length_le hk, rdL, h.within]
  simp
theorem RdSt.next (h : RdSt most l R k f ls cur turn) {c : UInt8} (hc : l[k]? = some c) (hm : (k : Int) ≠ most) (ht : turn = false) (h10 : c ≠ 10) : ∃ cur' turn', RdSt most l R (k + 1) f ls cur' turn' := by
  subst ht
  have hle := h.le
  have hr := h.r
  have hn := h.n
  have hx := h.t
  rw [drop_at l k hc, rdL, if_neg hm, if_neg (by rw [decide_eq_false h10]; simp)] at hr
  simp only [Bool.false_eq_true, if_false, List.append_nil] at hn hx
  by_cases h13 : c = 13
  · rw [if_pos h13] at hr
    refine ⟨cur, true, hr, by simp; omega, ?_, h.c, h.s⟩
    rw [take_one_more l f k hle hc, hx, h13]
    rfl
  · rw [if_neg h13, if_neg h10] at hr
    refine ⟨cur ++ [c], false, hr, by simp; omega, ?_, ?_, h.s⟩
    · rw [take_one_more l f k hle hc, hx]
      simp
    · intro hm2
      rcases List.mem_append.1 hm2 with hm2 | hm2
      · exact h.c hm2
      · exact h13 (List.mem_singleton.1 hm2).symm
theorem RdSt.line (h : RdSt most l R k f ls cur turn) {c : UInt8} (hc : l[k]? = some c) (hm : (k : Int) ≠ most) (ht : turn = true) (h10 : c = 10) : RdSt most l R (k + 1) (k + 1) (ls ++ [cur]) [] false := by
  subst ht
  have hr := h.r
  rw [drop_at l k hc, rdL, if_neg hm, if_neg (by rw [decide_eq_true h10]; simp), if_neg (by rw [h10]; decide), if_pos h10] at hr
  have hn := h.n
  refine ⟨?_, by simp, by simp, by simp, ?_⟩
  · rw [hr]
    simp
  · rw [lsum_snoc, h.s]
    simp at hn
    omega
theorem RdSt.text (h : RdSt most l R k f ls cur turn) (ht : turn = true) : (l.drop f).take (k - 1 - f) = cur := by
  subst ht
  have hn := h.n
  have hx := h.t
  simp only [if_true] at hn hx
  have h2 : k - 1 - f = cur.length := by omega
  rw [h2]
  have := congrArg (List.take cur.length) hx
  rw [List.take_take, Nat.min_eq_left (by omega)] at this
  rw [this]
  simp
end
theorem rdL_sum (most : Int) : ∀ (l : List UInt8) (i : Nat) (cur : List UInt8) (turn : Bool), lsum (rdL most l i cur turn).1 ≤ l.length + cur.length + (if turn = true then 1 else 0)
  | [], i, cur, turn => by
    show lsum [] ≤ _
    exact Nat.zero_le _
  | c :: r, i, cur, turn => by
    rw [rdL]
    split
    · exact Nat.zero_le _
    split
    · exact Nat.zero_le _
    split
    · have ih := rdL_sum most r (i + 1) cur true
      rename_i h1 h2 h3
      have ht : turn = false := by
        have := Decidable.not_not.1 h2
        rw [this, h3]
        rfl
      rw [ht]
      simp at ih ⊢
      omega
    split
    · have ih := rdL_sum most r (i + 1) [] false
      rename_i h1 h2 h3 h4
      have ht : turn = true := by
        have := Decidable.not_not.1 h2
        rw [this, h4]
        rfl
      rw [ht]
      unfold lsum at ih ⊢
      simp at ih ⊢
      omega
    · have ih := rdL_sum most r (i + 1) (cur ++ [c]) false
      rename_i h1 h2 h3 h4
      have ht : turn = false := by
        have := Decidable.not_not.1 h2
        rw [this]
        exact decide_eq_false h4
      rw [ht]
      simp at ih ⊢
      omega
end Go.Proofs.YtmoofcmmpemdcaaGreatDoor
namespace Go.Proofs.YtmoofcmmpemdcaaGreatDoor
open Go.RowKit
theorem results_tmp4 {fn : Func} {t u v x : Tmp} (h : fn.results = #[.tmp t, .tmp u, .tmp v, .tmp x]) (tmps : Array Value) (P : Program) (w : World) :
    (results fn tmps).run P w = .ok (.tuple #[tmps.getD t undef, tmps.getD u undef, tmps.getD v undef, tmps.getD x undef]) w := by
  simp [results, h]
set_option maxRecDepth 100000 in
set_option maxHeartbeats 4000000 in
theorem read16_any (S : ByteArray) (most : Int) (w : World) (hS : S.size ≤ 1000000) :
    Calls Tryz.prog 53 #[.string S, .int .i64 most] w fun e w' => ∃ v, e = .returned (.tuple #[v, .bool (rdL most S.data.toList 0 [] false).2.1, .int .i64 (rdL most S.data.toList 0 [] false).2.2.1, .int .i64 (rdL most S.data.toList 0 [] false).2.2.2]) ∧ OwnS w' w.heap.size v ((rdL most S.data.toList 0 [] false).1.map strL) ∧ Below w.heap.size w w' := by
  have hst0 := RdSt.start most S.data.toList
  obtain ⟨R, hR⟩ : ∃ R, R = rdL most S.data.toList 0 [] false := ⟨_, rfl⟩
  rw [← hR] at hst0 ⊢
  clear hR
  have HST0 := Lib.hid hst0
  have hn : S.data.toList.length = S.size := (Lib.size_eq S).symm
  have HN := Lib.hid hn
  have HO0 := Lib.hid (OwnS.empty w)
  have HB0 := Lib.hid ((Below.refl w.heap.size w).alloc (Nat.le_refl _) (.cells #[] 9))
  clear hst0 hn
  go_enter Tryz.func53, Tryz.ntmps53
  go_wp2_with fail
  go_loopw [8, 9, 10] (fun u8 u9 u10 wr => ∃ (k f : Nat) (ls : List (List UInt8)) (cur : List UInt8) (turn : Bool), k ≤ S.size ∧ u10 = .int .i64 k ∧ u9 = .int .i64 f ∧ RdSt most S.data.toList R k f ls cur turn ∧ OwnS wr w.heap.size u8 (ls.map strL) ∧ Below w.heap.size w wr) (fun _ _ u10 _ => S.size - (intOf u10).toNat)
  case atStart => exact ⟨0, 0, [], [], false, Nat.zero_le _, rfl, rfl, HST0.out, HO0.out, HB0.out⟩
  case round =>
    obtain ⟨k, f, ls, cur, turn, hk, rfl, rfl, hst, hown, hbel⟩ := hrel
    have HST := Lib.hid hst
    have HO := Lib.hid hown
    have HB := Lib.hid hbel
    have hfk := RdSt.le hst
    have HLS : Hid (ls.length ≤ k) := by
      show ls.length ≤ k
      have h1 := lsum_len ls
      rw [RdSt.s hst] at h1
      omega
    obtain ⟨FK, hFK⟩ : ∃ b, b = decide (f < k) := ⟨_, rfl⟩
    have hFI : decide (f < k) = FK := hFK.symm
    have HFK := Lib.hid hFK
    clear hst hown hbel hFK
    by_cases hlt : k < S.size
    · have hk1 : decide ((k : Int) < (S.size : Int)) = true := decide_eq_true (by omega)
      obtain ⟨c, hc⟩ : ∃ c, S.data.toList[k]? = some c := ⟨_, List.getElem?_eq_getElem (by have := HN.out; omega)⟩
      have HC := Lib.hid hc
      have hix : ∀ W : World, (Instr.index 9 (.string S) (.int .i64 (k : Int))).run Tryz.prog W = .ok (.int .u8 (bt S k)) W := index_bt S k hlt
      obtain ⟨x, hx⟩ : ∃ x : Int, x = bt S k := ⟨_, rfl⟩
      rw [← hx] at hix
      have HX : Hid (decide (c = 10) = (x == 10)) := by
        show _ = _
        rw [hx, bt_list hlt hc]
        exact beq_u8 c 10 10 rfl
      clear hx hc
      by_cases hm : (k : Int) = most
      · have hm1 : ((k : Int) == most) = true := by rw [beq_iff_eq]; exact hm
        have hw := RdSt.long HST.out HC.out hm
        rw [← HFK.out] at hw
        have HF := Lib.hid hw
        clear hw hm
        go_wp2_with fail
        exact bodyPost_ret (results_tmp4 Tryz.results53 _ _ _) rfl ⟨u8, by rw [HF.out]; rfl, by rw [HF.out]; exact HO.out, HB.out⟩
      have hm1 : ((k : Int) == most) = false := by rw [beq_eq_false_iff_ne]; exact hm
      have HNM := Lib.hid hm
      clear hm
      have hw1 : wrap64 ((k : Int) - 1) = (k : Int) - 1 := IntWalk.wrap64_in _ ⟨by omega, by omega⟩
      cases FK with
      | true =>
        have hfk2 : f < k := by have := HFK.out; exact of_decide_eq_true this.symm
        obtain ⟨c1, hc1⟩ : ∃ c1, S.data.toList[k - 1]? = some c1 := ⟨_, List.getElem?_eq_getElem (by have := HN.out; omega)⟩
        have hix1 : ∀ W : World, (Instr.index 9 (.string S) (.int .i64 ((k : Int) - 1))).run Tryz.prog W = .ok (.int .u8 (bt S (k - 1))) W := fun W => by
          have := index_bt S (k - 1) (by omega) W
          rw [show ((k - 1 : Nat) : Int) = (k : Int) - 1 by omega] at this
          exact this
        obtain ⟨x1, hx1⟩ : ∃ x1 : Int, x1 = bt S (k - 1) := ⟨_, rfl⟩
        rw [← hx1] at hix1
        have h13 : (x1 == 13) = turn := by
          have h1 := RdSt.last HST.out hfk2 (by have := HN.out; omega) hc1
          rw [hx1, bt_list (by omega) hc1, ← beq_u8 c1 13 13 rfl]
          exact h1
        have hS1 : S[k - 1]'(by omega) = c1 := by
          have : S.data.toList[k - 1]? = some (S[k - 1]'(by omega)) := by rw [List.getElem?_eq_getElem (by have := HN.out; omega)]; rfl
          rw [this] at hc1
          injection hc1
        have h13c : ((c1.toNat : Int) == 13) = turn := by rw [← h13, hx1, bt_list (by omega) hc1]
        clear hx1 hc1
        cases turn with
        | true =>
          have HT : Hid (true = true) := rfl
          cases hx10 : (x == 10) with
          | true =>
            have hst' := RdSt.line HST.out HC.out HNM.out HT.out (by have := HX.out; rw [hx10] at this; exact of_decide_eq_true this)
            have htx := RdSt.text HST.out HT.out
            have hle := RdSt.le HST.out
            have hsl : ∀ W : World, (Instr.slice 9 (.string S) (some (.int .i64 (f : Int))) (some (.int .i64 ((k : Int) - 1))) none).run Tryz.prog W = .ok (.string (strL cur)) W := fun W => by
              rw [run_slice_string W 9 S .i64 .i64 (f : Int) ((k : Int) - 1) Tryz.underlying9 (by omega) (by omega) (by omega), Int.toNat_natCast, show ((k : Int) - 1).toNat = k - 1 by omega]
              congr 2
              rw [strL, ← htx]
              apply ByteArray.ext
              apply Array.toList_inj.1
              simp [ByteArray.data_extract, List.extract_eq_take_drop]
            have hll : (ls.map strL).length = ls.length := List.length_map _
            have hlb : ls.length ≤ 1000000 := by
              have h1 := RdSt.n HST.out
              have h2 := HLS.out
              omega
            have hrl : (ls.map strL ++ [strL cur]) = (ls ++ [cur]).map strL := by simp
            have HST' := Lib.hid hst'
            have HRL := Lib.hid hrl
            have HLB := Lib.hid (show ls.length + 1 ≤ k + 1 by have := HLS.out; omega)
            have HBS := Lib.hid HB.out.size
            clear hst' htx hrl
            go_wp2_with (at_builtin; refine wpList_push_str rfl _ _ rfl rfl HO.out (strL cur) rfl (by rw [hll]; exact hlb) HBS.out ?_; intro p4 c4 w4 ho4 _ hb4; have HO4 : Hid (OwnS w4 w.heap.size (.slice p4 (ls.length + 1) c4) (ls.map strL ++ [strL cur])) := (show OwnS w4 w.heap.size (.slice p4 (ls.length + 1) c4) (ls.map strL ++ [strL cur]) by rw [← hll]; exact ho4); have HB4 := Lib.hid hb4; clear ho4 hb4)
            go_roundw
            case rel => exact ⟨k + 1, k + 1, ls ++ [cur], [], false, by omega, by go_num, by go_num, HST'.out, by rw [← HRL.out]; exact HO4.out, HB.out.trans HB4.out⟩
            case measure => simp [intOf]; omega
          | false =>
            have hw := RdSt.wrong HST.out HC.out HNM.out (by rw [HX.out, hx10, HT.out]; decide)
            rw [← HFK.out] at hw
            have HF := Lib.hid hw
            clear hw
            go_wp2_with fail
            exact bodyPost_ret (results_tmp4 Tryz.results53 _ _ _) rfl ⟨u8, by rw [HF.out]; rfl, by rw [HF.out]; exact HO.out, HB.out⟩
        | false =>
          have HT : Hid (false = false) := rfl
          cases hx10 : (x == 10) with
          | true =>
            have hw := RdSt.wrong HST.out HC.out HNM.out (by rw [HX.out, hx10, HT.out]; decide)
            rw [← HFK.out] at hw
            have HF := Lib.hid hw
            clear hw
            go_wp2_with fail
            exact bodyPost_ret (results_tmp4 Tryz.results53 _ _ _) rfl ⟨u8, by rw [HF.out]; rfl, by rw [HF.out]; exact HO.out, HB.out⟩
          | false =>
            obtain ⟨cur', turn', hst'⟩ := RdSt.next HST.out HC.out HNM.out HT.out (by have := HX.out; rw [hx10] at this; exact of_decide_eq_false this)
            have HST' := Lib.hid hst'
            clear hst'
            go_wp2_with fail
            go_roundw
            case rel => exact ⟨k + 1, f, ls, cur', turn', by omega, by go_num, rfl, HST'.out, HO.out, HB.out⟩
            case measure => simp [intOf]; omega
      | false =>
        have ht : turn = false := by
          have h1 := RdSt.within HST.out
          rw [← HFK.out] at h1
          cases turn with
          | true => simp at h1
          | false => rfl
        subst ht
        have HT : Hid (false = false) := rfl
        cases hx10 : (x == 10) with
        | true =>
          have hw := RdSt.wrong HST.out HC.out HNM.out (by rw [HX.out, hx10, HT.out]; decide)
          rw [← HFK.out] at hw
          have HF := Lib.hid hw
          clear hw
          go_wp2_with fail
          exact bodyPost_ret (results_tmp4 Tryz.results53 _ _ _) rfl ⟨u8, by rw [HF.out]; rfl, by rw [HF.out]; exact HO.out, HB.out⟩
        | false =>
          obtain ⟨cur', turn', hst'⟩ := RdSt.next HST.out HC.out HNM.out HT.out (by have := HX.out; rw [hx10] at this; exact of_decide_eq_false this)
          have HST' := Lib.hid hst'
          clear hst'
          go_wp2_with fail
          go_roundw
          case rel => exact ⟨k + 1, f, ls, cur', turn', by omega, by go_num, rfl, HST'.out, HO.out, HB.out⟩
          case measure => simp [intOf]; omega
    · have hk1 : decide ((k : Int) < (S.size : Int)) = false := decide_eq_false (by omega)
      have hkn : k = S.size := by omega
      have hw := RdSt.stop HST.out (by have := HN.out; omega)
      rw [← HFK.out] at hw
      have HF := Lib.hid hw
      have hFN : decide (f < S.size) = FK := by rw [← hkn]; exact hFI
      clear hw
      have HKN := Lib.hid hkn
      go_wp2_with fail
      exact bodyPost_ret (results_tmp4 Tryz.results53 _ _ _) rfl ⟨u8, by rw [HF.out, HKN.out]; rfl, by rw [HF.out]; exact HO.out, HB.out⟩
end Go.Proofs.YtmoofcmmpemdcaaGreatDoor
namespace Go.Proofs.YtmoofcmmpemdcaaGreatDoor
open Go.RowKit
/-- What is read of octets. -/
structure GotS where
  hd : Hd
  used : Int
  fin : Bool
  e : Int
  begun : Bool
def GotS.row (g : GotS) (f : Value) : Array Value := #[.string g.hd.m, .string g.hd.t, .int .i64 g.hd.k, .int .i64 g.hd.n, .string g.hd.r, f, .int .i64 g.used, .bool g.fin, .int .i64 g.e, .bool g.begun]
def gotZ (q : Bool × Nat × Int) (z : Option ((Hd × Int) × Nat) × List ByteArray) : GotS :=
  match z with
  | (some (h, used), _) => ⟨h.1, used, true, h.2, true⟩
  | (none, got) => ⟨hd0, q.2.1, false, q.2.2, q.1 || !got.isEmpty⟩
def gotP (kind fields fold most : Int) (l : List UInt8) : GotS := gotZ (rdL most l 0 [] false).2 (scanP kind fields fold (rdL most l 0 [] false).1 0 [])
theorem blk_set10 {w : World} {g : Nat} {t : TypeId} {x0 x1 x2 x3 x4 x5 x6 x7 x8 x9 : Value} (h : Blk w g #[x0, x1, x2, x3, x4, x5, x6, x7, x8, x9] t) (y0 y1 y2 y3 y4 y5 y6 y7 y8 y9 : Value) :
    Blk ((((((((((w.setCell ⟨g, 0, none⟩ y0).setCell ⟨g, 1, none⟩ y1).setCell ⟨g, 2, none⟩ y2).setCell ⟨g, 3, none⟩ y3).setCell ⟨g, 4, none⟩ y4).setCell ⟨g, 5, none⟩ y5).setCell ⟨g, 6, none⟩ y6).setCell ⟨g, 7, none⟩ y7).setCell ⟨g, 8, none⟩ y8).setCell ⟨g, 9, none⟩ y9) g #[y0, y1, y2, y3, y4, y5, y6, y7, y8, y9] t := by
  have := ((((((((((h.set 0 (y0)).set 1 (y1)).set 2 (y2)).set 3 (y3)).set 4 (y4)).set 5 (y5)).set 6 (y6)).set 7 (y7)).set 8 (y8)).set 9 (y9))
  simpa using this
theorem below_set10 {w w' : World} {B g : Nat} (h : Below B w w') (hg : B ≤ g) (y0 y1 y2 y3 y4 y5 y6 y7 y8 y9 : Value) :
    Below B w ((((((((((w'.setCell ⟨g, 0, none⟩ y0).setCell ⟨g, 1, none⟩ y1).setCell ⟨g, 2, none⟩ y2).setCell ⟨g, 3, none⟩ y3).setCell ⟨g, 4, none⟩ y4).setCell ⟨g, 5, none⟩ y5).setCell ⟨g, 6, none⟩ y6).setCell ⟨g, 7, none⟩ y7).setCell ⟨g, 8, none⟩ y8).setCell ⟨g, 9, none⟩ y9) :=
  (((((((((h.setCell (p := ⟨g, 0, none⟩) hg y0).setCell (p := ⟨g, 1, none⟩) hg y1).setCell (p := ⟨g, 2, none⟩) hg y2).setCell (p := ⟨g, 3, none⟩) hg y3).setCell (p := ⟨g, 4, none⟩) hg y4).setCell (p := ⟨g, 5, none⟩) hg y5).setCell (p := ⟨g, 6, none⟩) hg y6).setCell (p := ⟨g, 7, none⟩) hg y7).setCell (p := ⟨g, 8, none⟩) hg y8).setCell (p := ⟨g, 9, none⟩) hg y9
theorem own_set10 {w : World} {B : Nat} {e : TypeId} {size : Nat} {v : Value} {n : Nat} {xs : List Value} (h : w.ownsRow B e size v n xs) {g : Nat} (hg : g < B) (y0 y1 y2 y3 y4 y5 y6 y7 y8 y9 : Value) :
    ((((((((((w.setCell ⟨g, 0, none⟩ y0).setCell ⟨g, 1, none⟩ y1).setCell ⟨g, 2, none⟩ y2).setCell ⟨g, 3, none⟩ y3).setCell ⟨g, 4, none⟩ y4).setCell ⟨g, 5, none⟩ y5).setCell ⟨g, 6, none⟩ y6).setCell ⟨g, 7, none⟩ y7).setCell ⟨g, 8, none⟩ y8).setCell ⟨g, 9, none⟩ y9).ownsRow B e size v n xs :=
  own_set (own_set (own_set (own_set (own_set (own_set (own_set (own_set (own_set (own_set h hg 0 y0) hg 1 y1) hg 2 y2) hg 3 y3) hg 4 y4) hg 5 y5) hg 6 y6) hg 7 y7) hg 8 y8) hg 9 y9
theorem tg_step {got : List ByteArray} {t : ByteArray} {A : Nat} (h : tot got + got.length ≤ A) : tot (got ++ [t]) + (got ++ [t]).length ≤ A + t.size + 2 := by
  rw [tot_snoc, List.length_append]
  simp only [List.length_singleton]
  omega
theorem meas_s {n k : Nat} (h : k < n) : n - (intOf (.int .i64 ((k : Int) + 1))).toNat < n - (intOf (.int .i64 (k : Int))).toNat := by
  simp [intOf]
  omega
theorem wrap_two {A T : Nat} (h : A + T + 2 ≤ 65536) : wrap64 ((A : Int) + (T : Int)) = (A : Int) + (T : Int) ∧ wrap64 ((A : Int) + (T : Int) + 2) = (A : Int) + (T : Int) + 2 := ⟨IntWalk.wrap64_in _ ⟨by omega, by omega⟩, IntWalk.wrap64_in _ ⟨by omega, by omega⟩⟩
set_option maxRecDepth 100000 in
set_option maxHeartbeats 8000000 in
theorem read22_any (kind a fields c d fold : Int) (S : ByteArray) (w : World) (hS : S.size ≤ 65536) :
    Calls Tryz.prog 21 #[.string S, .int .i64 kind, .agg #[.int .i64 a, .int .i64 fields, .int .i64 c, .int .i64 d, .int .i64 fold]] w fun e w' => ∃ f, e = .returned (.agg ((gotP kind fields fold a S.data.toList).row f)) ∧ OwnF w' w.heap.size f (gotP kind fields fold a S.data.toList).hd.fs ∧ Below w.heap.size w w' := by
  obtain ⟨G, hG⟩ : ∃ G, G = gotP kind fields fold a S.data.toList := ⟨_, rfl⟩
  rw [← hG]
  have hR16 := fun (W : World) => read16_any S a W (by omega)
  have hsm := rdL_sum a S.data.toList 0 [] false
  unfold gotP at hG
  obtain ⟨R, hR⟩ : ∃ R, R = rdL a S.data.toList 0 [] false := ⟨_, rfl⟩
  rw [← hR] at hG hsm hR16
  have hsm : lsum R.1 ≤ 65536 := by
    rw [← Lib.size_eq] at hsm
    simp at hsm
    omega
  obtain ⟨R1, WI, US, ER⟩ := R
  have HG := Lib.hid hG
  have HR16 := Lib.hid hR16
  have HSM := Lib.hid hsm
  have HB0 := Lib.hid (below_al2 w (.cells #[.int .i64 a, .int .i64 fields, .int .i64 c, .int .i64 d, .int .i64 fold] 36) (.cells #[.string ⟨#[]⟩, .string ⟨#[]⟩, .int .i64 0, .int .i64 0, .string ⟨#[]⟩, .slice none 0 0, .int .i64 0, .bool false, .int .i64 0, .bool false] 45))
  have KL0 := Lib.hid ((Blk.new w #[.int .i64 a, .int .i64 fields, .int .i64 c, .int .i64 d, .int .i64 fold] 36).alloc (.cells #[.string ⟨#[]⟩, .string ⟨#[]⟩, .int .i64 0, .int .i64 0, .string ⟨#[]⟩, .slice none 0 0, .int .i64 0, .bool false, .int .i64 0, .bool false] 45))
  have KG0 := Lib.hid (blk_al2 w #[.int .i64 a, .int .i64 fields, .int .i64 c, .int .i64 d, .int .i64 fold] #[.string ⟨#[]⟩, .string ⟨#[]⟩, .int .i64 0, .int .i64 0, .string ⟨#[]⟩, .slice none 0 0, .int .i64 0, .bool false, .int .i64 0, .bool false] 36 45)
  clear hG hR hR16
  clear hsm
  go_enter Tryz.func21, Tryz.ntmps21
  go_wp2_with (go_at_call 53; refine (HR16.out _).mono ?_; rintro e0 w1 ⟨v1, rfl, ho1, hb1⟩; have HB1 := Lib.hid (below_two hb1); have KL1 := Lib.hid (KL0.out.call hb1); have KG1 := Lib.hid (KG0.out.call hb1); have HO1 := Lib.hid ho1.strs; have hz1 := hb1.size; clear ho1 hb1)
  have HZ1 : Hid (w.heap.size + 2 ≤ w1.heap.size) := by show _ ≤ _; simp at hz1; omega
  obtain ⟨pv, cv, rfl, hcell⟩ := HO1.out
  have HCE := Lib.hid hcell
  rw [List.length_map]
  clear hcell hz1 HO1
  have HO2 := Lib.hid (OwnS.empty w1)
  have HB2 := Lib.hid ((Below.refl w1.heap.size w1).alloc (Nat.le_refl _) (.cells #[] 9))
  go_loopw [11, 12, 13] (fun u11 u12 u13 wr => ∃ (k : Nat) (got : List ByteArray), k ≤ R1.length ∧ u13 = .int .i64 k ∧ u12 = .int .i64 (lsum (R1.take k)) ∧ OwnS wr w1.heap.size u11 got ∧ scanP kind fields fold R1 0 [] = scanP kind fields fold (R1.drop k) (lsum (R1.take k)) got ∧ tot got + got.length ≤ lsum (R1.take k) ∧ Below w1.heap.size w1 wr) (fun _ _ u13 _ => R1.length - (intOf u13).toNat)
  case atStart => exact ⟨0, [], Nat.zero_le _, rfl, rfl, HO2.out, rfl, Nat.zero_le _, HB2.out⟩
  case round =>
    obtain ⟨k, got, hk, rfl, rfl, hown, hpre, htg, hbel⟩ := hrel
    obtain ⟨pg, cg, rfl⟩ := hown.shape
    have hRl : R1.length ≤ 65536 := Nat.le_trans (lsum_len R1) HSM.out
    have HO := Lib.hid hown
    have HP := Lib.hid hpre
    have HB := Lib.hid hbel
    have HBS := Lib.hid hbel.size
    have KL := Lib.hid (KL1.out.call hbel)
    have KG := Lib.hid (KG1.out.call hbel)
    obtain ⟨AT, hAT⟩ : ∃ n, n = lsum (R1.take k) := ⟨_, rfl⟩
    rw [← hAT] at htg ⊢
    have HAT := Lib.hid hAT
    have HTG := Lib.hid htg
    have hatl : AT ≤ 65536 := by rw [hAT]; exact Nat.le_trans (lsum_take R1 k) HSM.out
    clear hown hpre hbel hAT htg
    by_cases hlt : k < R1.length
    · have hk1 : decide ((k : Int) < (R1.length : Int)) = true := decide_eq_true (by omega)
      obtain ⟨b, off, hp, h1⟩ := HCE.out k (by rw [List.length_map]; exact hlt)
      subst hp
      obtain ⟨x, hx⟩ : ∃ x, x = R1[k] := ⟨_, rfl⟩
      rw [List.getElem_map, ← hx] at h1
      have h2 := (bcell HB.out b _ (World.block_lt_of_cell? _ _ h1)).trans h1
      have hnx : lsum (R1.take (k + 1)) = AT + x.length + 2 := by rw [List.take_succ_eq_append_getElem hlt, lsum_snoc, ← HAT.out, ← hx]
      have hnl : AT + x.length + 2 ≤ 65536 := by rw [← hnx]; exact Nat.le_trans (lsum_take R1 (k + 1)) HSM.out
      have hsc : scanP kind fields fold R1 0 [] = scanP kind fields fold (x :: R1.drop (k + 1)) AT got := by rw [HP.out, List.drop_eq_getElem_cons hlt, ← hx, HAT.out]
      rw [scanP] at hsc
      obtain ⟨t, ht⟩ : ∃ t, t = strL x := ⟨_, rfl⟩
      have hts : t.size = x.length := by rw [ht, strL_size]
      rw [← ht] at h2 hsc
      obtain ⟨hw1, hw2⟩ := wrap_two (A := AT) (T := t.size) (by rw [hts]; exact hnl)
      have HNX := Lib.hid hnx
      have HSC := Lib.hid hsc
      have HTS := Lib.hid hts
      have HNL := Lib.hid hnl
      clear h1 hnx hsc hx
      by_cases hz : x = []
      · subst hz
        have he : t.toList.isEmpty = true := by rw [ht, isEmpty_list]; rfl
        have hts0 : t.size = 0 := hts
        have HT0 := Lib.hid hts0
        clear ht hts hnl hts0
        by_cases hg : got ≠ [] ∨ kind = 2
        · have hGe : G = ⟨(headP kind fields fold got).1, (AT : Int) + (t.size : Int) + 2, true, (headP kind fields fold got).2, true⟩ := by
            rw [HG.out, HSC.out, if_neg (by simp), if_pos hg, HT0.out]
            unfold gotZ
            simp
          have HPR := Lib.hid (fun (W : World) (hs : Strs W (.slice pg got.length cg) got) => rhparse_any kind a fields c d fold (.slice pg got.length cg) HO.out.capok got W hs (Nat.le_trans (Nat.le_trans (Nat.le_add_left _ _) HTG.out) (Nat.le_trans hatl (by decide))) (Nat.le_trans (Nat.le_trans (Nat.le_add_right _ _) HTG.out) (Nat.le_trans hatl (by decide))))
          obtain ⟨Q, hQ⟩ : ∃ Q, Q = headP kind fields fold got := ⟨_, rfl⟩
          rw [← hQ] at hGe HPR
          obtain ⟨⟨qm, qt, qk, qn, qr, qf⟩, qe⟩ := Q
          subst hGe
          simp only [Hd.row] at HPR
          have HSO := Lib.hid HO.out.strs
          have hor : (∃ m, got.length = m + 1) ∨ (got.length = 0 ∧ (kind == 2) = true) := by
            cases hpa : got with
            | nil =>
              rcases hg with hg | hg
              · exact absurd hpa hg
              · exact Or.inr ⟨rfl, by subst hg; rfl⟩
            | cons y r => exact Or.inl ⟨r.length, rfl⟩
          have q0 := KL.out.cell 0
          have q1 := KL.out.cell 1
          have q2 := KL.out.cell 2
          have q3 := KL.out.cell 3
          have q4 := KL.out.cell 4
          simp at q0 q1 q2 q3 q4
          clear hQ hg
          rcases hor with ⟨m, hm⟩ | ⟨hm, hk2⟩
          all_goals rw [hm] at HPR HSO ⊢
          all_goals clear hm
          all_goals go_wp2_with (go_at_call 54; refine (HPR.out _ HSO.out).mono ?_; rintro e3 w3 ⟨f3, rfl, ho3, hb3⟩; obtain ⟨pf, cf, rfl⟩ := own_slice ho3; simp only at ho3 ⊢; have hbn := (Below.refl w3.heap.size w3).alloc (Nat.le_refl _) (.cells #[.string qm, .string qt, .int .i64 qk, .int .i64 qn, .string qr, .slice pf qf.length cf] 24); have KH := Lib.hid (Blk.new w3 #[.string qm, .string qt, .int .i64 qk, .int .i64 qn, .string qr, .slice pf qf.length cf] 24); have KG3 := Lib.hid ((KG.out.call hb3).call hbn); have HO3 := Lib.hid (OwnF.call ho3 hbn); have HB3 := Lib.hid ((HB.out.trans (hb3.mono HB.out.size)).trans (hbn.mono (Nat.le_trans HB.out.size hb3.size))); have hz3 := hb3.size; have x0 := KH.out.cell 0; have x1 := KH.out.cell 1; have x2 := KH.out.cell 2; have x3 := KH.out.cell 3; have x4 := KH.out.cell 4; have x5 := KH.out.cell 5; simp at x0 x1 x2 x3 x4 x5; have z0 := KG3.out.cell 0; have zf0 := KG3.out.froz 0; have z1 := KG3.out.cell 1; have zf1 := KG3.out.froz 1; have z2 := KG3.out.cell 2; have zf2 := KG3.out.froz 2; have z3 := KG3.out.cell 3; have zf3 := KG3.out.froz 3; have z4 := KG3.out.cell 4; have zf4 := KG3.out.froz 4; have z5 := KG3.out.cell 5; have zf5 := KG3.out.froz 5; have z6 := KG3.out.cell 6; have zf6 := KG3.out.froz 6; have z7 := KG3.out.cell 7; have zf7 := KG3.out.froz 7; have z8 := KG3.out.cell 8; have zf8 := KG3.out.froz 8; have z9 := KG3.out.cell 9; have zf9 := KG3.out.froz 9; simp at z0 z1 z2 z3 z4 z5 z6 z7 z8 z9; clear hb3 ho3 hbn q0 q1 q2 q3 q4)
          all_goals have KF := blk_set10 KG3.out (.string qm) (.string qt) (.int .i64 qk) (.int .i64 qn) (.string qr) (.slice pf qf.length cf) (.int .i64 ((AT : Int) + (t.size : Int) + 2)) (.bool true) (.int .i64 qe) (.bool true)
          all_goals refine bodyPost_ret (results_cell_row (Tryz.results21) _ _ (w.heap.size + 1) 45 _ (0, 0) _ rfl KF Tryz.underlying45 rfl (by kernel_rfl)) rfl ?_
          all_goals exact ⟨.slice pf qf.length cf, rfl, OwnF.lower (own_set10 HO3.out (Nat.lt_of_lt_of_le (Nat.lt_succ_self _) (Nat.le_trans HZ1.out HBS.out)) _ _ _ _ _ _ _ _ _ _) (Nat.le_trans (Nat.le_trans (Nat.le_add_right _ 2) HZ1.out) HBS.out), below_set10 (HB1.out.trans (HB3.out.mono HB1.out.size)) (Nat.le_succ _) _ _ _ _ _ _ _ _ _ _⟩
        · have hkd : kind ≠ 2 := fun e => hg (Or.inr e)
          have hk2 : (kind == 2) = false := by rw [beq_eq_false_iff_ne]; exact hkd
          have hgn : got = [] := Decidable.not_not.1 (fun e => hg (Or.inl e))
          subst hgn
          have hn : scanP kind fields fold R1 0 [] = scanP kind fields fold (R1.drop (k + 1)) (AT + 2) [] := by rw [HSC.out, if_neg (by simp), if_neg hg]
          have HN := Lib.hid hn
          clear hg hn hkd
          go_wp2_with fail
          go_roundw
          case rel => exact ⟨k + 1, [], hlt, by go_num, by (try rw [hw2]); rw [HNX.out, HT0.out]; (first | rfl | simp), HO.out, by rw [HNX.out]; exact HN.out, Nat.zero_le _, HB.out⟩
          case measure => first | exact meas_s hlt | (simp [intOf]; omega)
      · have he : t.toList.isEmpty = false := by
          rw [isEmpty_list, ht]
          cases x with
          | nil => exact absurd rfl hz
          | cons y r => rfl
        have hn : scanP kind fields fold R1 0 [] = scanP kind fields fold (R1.drop (k + 1)) (AT + x.length + 2) (got ++ [t]) := by rw [HSC.out, if_pos hz]
        have HN := Lib.hid hn
        have hgl : got.length ≤ 1000000 := Nat.le_trans (Nat.le_trans (Nat.le_add_left _ _) HTG.out) (Nat.le_trans hatl (by decide))
        clear hz hn ht hts hnl
        go_wp2_with (at_builtin; refine wpList_push_str rfl _ _ rfl rfl HO.out t rfl hgl HBS.out ?_; intro p4 c4 w4 ho4 _ hb4; have HO4 := Lib.hid ho4; have HB4 := Lib.hid hb4; clear ho4 hb4)
        go_roundw
        case rel =>
          refine ⟨k + 1, got ++ [t], hlt, by go_num, by (try rw [hw2]); rw [HNX.out, ← HTS.out]; (first | rfl | simp), HO4.out, by rw [HNX.out]; exact HN.out, ?_, HB.out.trans HB4.out⟩
          rw [HNX.out, ← HTS.out]
          exact tg_step HTG.out
        case measure => first | exact meas_s hlt | (simp [intOf]; omega)
    · have hk1 : decide ((k : Int) < (R1.length : Int)) = false := decide_eq_false (by omega)
      have hGe : G = ⟨hd0, US, false, ER, WI || !got.isEmpty⟩ := by
        rw [HG.out, HP.out, List.drop_of_length_le (by omega)]
        rfl
      subst hGe
      have z0 := KG.out.cell 0
      have zf0 := KG.out.froz 0
      have z1 := KG.out.cell 1
      have zf1 := KG.out.froz 1
      have z2 := KG.out.cell 2
      have zf2 := KG.out.froz 2
      have z3 := KG.out.cell 3
      have zf3 := KG.out.froz 3
      have z4 := KG.out.cell 4
      have zf4 := KG.out.froz 4
      have z5 := KG.out.cell 5
      have zf5 := KG.out.froz 5
      have z6 := KG.out.cell 6
      have zf6 := KG.out.froz 6
      have z7 := KG.out.cell 7
      have zf7 := KG.out.froz 7
      have z8 := KG.out.cell 8
      have zf8 := KG.out.froz 8
      have z9 := KG.out.cell 9
      have zf9 := KG.out.froz 9
      simp at z0 z1 z2 z3 z4 z5 z6 z7 z8 z9
      clear hatl
      have HBZ := Lib.hid (HB1.out.trans (HB.out.mono HB1.out.size))
      cases got with
      | nil =>
        cases WI
        · go_wp2_with fail
          have KF := blk_set10 KG.out (.string ⟨#[]⟩) (.string ⟨#[]⟩) (.int .i64 0) (.int .i64 0) (.string ⟨#[]⟩) (.slice none 0 0) (.int .i64 (US : Int)) (.bool false) (.int .i64 ER) (.bool false)
          refine bodyPost_ret (results_cell_row (Tryz.results21) _ _ (w.heap.size + 1) 45 _ (0, 0) _ rfl KF Tryz.underlying45 rfl (by kernel_rfl)) rfl ?_
          exact ⟨.slice none 0 0, rfl, OwnF.start _ _, below_set10 HBZ.out (Nat.le_succ _) _ _ _ _ _ _ _ _ _ _⟩
        · go_wp2_with fail
          have KF := blk_set10 KG.out (.string ⟨#[]⟩) (.string ⟨#[]⟩) (.int .i64 0) (.int .i64 0) (.string ⟨#[]⟩) (.slice none 0 0) (.int .i64 (US : Int)) (.bool false) (.int .i64 ER) (.bool true)
          refine bodyPost_ret (results_cell_row (Tryz.results21) _ _ (w.heap.size + 1) 45 _ (0, 0) _ rfl KF Tryz.underlying45 rfl (by kernel_rfl)) rfl ?_
          exact ⟨.slice none 0 0, rfl, OwnF.start _ _, below_set10 HBZ.out (Nat.le_succ _) _ _ _ _ _ _ _ _ _ _⟩
      | cons y r =>
        have hlen : (y :: r).length = r.length + 1 := rfl
        rw [hlen]
        cases WI
        all_goals go_wp2_with fail
        all_goals have KF := blk_set10 KG.out (.string ⟨#[]⟩) (.string ⟨#[]⟩) (.int .i64 0) (.int .i64 0) (.string ⟨#[]⟩) (.slice none 0 0) (.int .i64 (US : Int)) (.bool false) (.int .i64 ER) (.bool true)
        all_goals refine bodyPost_ret (results_cell_row (Tryz.results21) _ _ (w.heap.size + 1) 45 _ (0, 0) _ rfl KF Tryz.underlying45 rfl (by kernel_rfl)) rfl ?_
        all_goals exact ⟨.slice none 0 0, rfl, OwnF.start _ _, below_set10 HBZ.out (Nat.le_succ _) _ _ _ _ _ _ _ _ _ _⟩
end Go.Proofs.YtmoofcmmpemdcaaGreatDoor
