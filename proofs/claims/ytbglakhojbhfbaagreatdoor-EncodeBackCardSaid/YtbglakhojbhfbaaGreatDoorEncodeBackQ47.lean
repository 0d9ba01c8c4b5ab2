/- Texts packed for one claim, 47 of 49: EbW EbC EncodeBack. -/
import Derived.Test.YtbglakhojbhfbaaGreatDoorEncodeBackQ45
import Derived.Test.YtbglakhojbhfbaaGreatDoorEncodeBackQ46
import Derived.Deep.Upon
import Derived.Test.YtbglakhojbhfbaaGreatDoorEncodeBackQ42
set_option linter.unusedSimpArgs false
set_option linter.unusedVariables false
-- EbW
namespace Go.Proofs.YtbglakhojbhfbaaGreatDoor
open Go.RowKit
set_option maxRecDepth 100000 in
set_option maxHeartbeats 2000000 in
/-- Pieces behind pieces. -/
theorem wpList_push_pcs {ops : Array Oper} {rest : List Oper} {o : Oper} {a : Act} {Q : Exit → Act → World → Prop} (hgd : o.guard = none) (s x : Operand)
    (ho : o.op = .call { callee := .builtin .append, args := #[s, x], argTypes := #[39, 39] }) {w : World} {B B2 : Nat} {v vo : Value} {l ys : List Pc} (hs : a.eval s = v) (hown : OwnPc w B v l)
    (hx : a.eval x = vo) (hy : OwnPc w B2 vo ys) (hvo : ys = [] → vo = .slice none 0 0) (hl : l.length ≤ 1000000) (hly : ys.length ≤ 1000000) (hB : B ≤ w.heap.size)
    (h : ∀ p c w1, OwnPc w1 B (.slice p (l.length + ys.length) c) (l ++ ys) → Below B w w1 → Touch (fun j => v.ownBlock = some j) w w1 → wpList Tryz.prog ops Q rest (a.put o.dst (.slice p (l.length + ys.length) c)) w1) :
    wpList Tryz.prog ops Q (o :: rest) a w := by
  obtain ⟨i0, hi, hz0, hz1, hz2⟩ := info_parts info_piece
  by_cases hn : ys = []
  · have hv0 := hvo hn
    subst hn hv0
    have hsrc : Go.Src Tryz.prog i0.size 39 (.slice none 0 0) 0 [] w := ⟨Or.inl ⟨_, Tryz.underlying39⟩, fun _ => rfl, by rw [hz1]; rfl, by rw [hz1]; rfl, by simp, fun u hu => by cases hu⟩
    obtain ⟨b0, n0, c0, hv, hle, hnl⟩ : ∃ b n c, v = .slice b n c ∧ n ≤ c ∧ n = l.length := by
      obtain ⟨_, h2⟩ := hown
      rcases h2 with ⟨rfl, h0⟩ | ⟨g, cap, cur, rfl, _, _, h4, _⟩
      · exact ⟨_, _, _, rfl, Nat.le_refl _, h0.symm⟩
      · exact ⟨_, _, _, rfl, h4, rfl⟩
    refine wpList_plain hgd fun K hK => ?_
    have hr := Go.run_append_nothing (P := Tryz.prog) w 39 39 o.type 79 i0 Tryz.underlying39 hi b0 n0 c0 hle (.slice none 0 0) hsrc
    unfold Oper.wp execOp
    simp only [ho, resolve, invoke, builtin, Sem.run_bind, Sem.run_pure, Result.andThen_ok, List.map_toArray, List.map_cons, List.map_nil, hs, hx, hv, hr]
    refine hK _ _ ?_
    have h' := h b0 c0 w (by rw [List.append_nil]; show OwnPc w B (.slice b0 (l.length + 0) c0) l; rw [Nat.add_zero, ← hnl, ← hv]; exact hown) (Below.refl _ _) (Touch.refl _ _)
    rw [show l.length + ([] : List Pc).length = n0 by rw [hnl]; rfl] at h'
    exact h'
  · have hpos : 0 < ys.length := List.length_pos_iff.2 hn
    have hy' := hy
    obtain ⟨_, hy2⟩ := hy
    rcases hy2 with ⟨_, h0⟩ | ⟨g, cap, cur, rfl, _, hg, k1, k2, k3, k4⟩
    · omega
    · refine wpList_append_lies _ hgd s x 39 ho B 79 i0 _ 3 32 Tryz.underlying39 hi hz0 hz1 hz2 rfl (by decide) v l.length _ hs hown ⟨g, 0, none⟩ ys.length cap (pcFlat ys) hx (pcFlat_length ys) ?c1 ?c2 hpos ?c3 ?c4 hB _ rfl ?_
      case c1 =>
        intro j u hu
        have hlt : j < ys.length * 3 := by rw [← pcFlat_length]; exact (List.getElem?_eq_some_iff.1 hu).1
        rw [← k4, List.getElem?_take, if_pos hlt, Array.getElem?_toList] at hu
        have e : (⟨g, 0, none⟩ : Addr).add j = ⟨g, j, none⟩ := by simp [Addr.add]; intro h; exact h.symm
        rw [e]
        simp only [World.cell?, hg]
        exact hu
      case c2 =>
        intro u hu
        unfold pcFlat at hu
        obtain ⟨p, _, hp⟩ := List.mem_flatMap.1 hu
        simp at hp
        rcases hp with rfl | rfl | rfl <;> rfl
      case c3 => unfold maxLen; omega
      case c4 => omega
      intro g1 c1 w1 hown1 hgr _ _
      have ht : Touch (fun j => v.ownBlock = some j) w w1 := ⟨hgr.os, hgr.tape, hgr.output, hgr.size, fun k hk hne => hgr.block k hk (fun e => hne e.symm)⟩
      refine h _ c1 w1 ?_ (ht.below (fun j _ hj => (own_ty hown j hj).1) hB) ht
      show w1.ownsRow B 79 3 _ (l ++ ys).length (pcFlat (l ++ ys))
      rw [List.length_append, pcFlat_append]
      exact hown1
set_option maxRecDepth 100000 in
theorem gfits_any {w : World} {g : Gt} {vs va : Value} (hov : Bool) (hg : GtFit g) (hs : Nums w vs g.sizes) (ha : Nums w va g.at_) (hz : g.sizes.length ≤ 1000) (hb : ∀ k, 0 ≤ (g.sizes.take k).sum ∧ (g.sizes.take k).sum ≤ 1000000) :
    Calls Tryz.prog 14 #[.agg (gtRow { g with over := hov } vs va)] w fun e w' => e = .returned (.bool true) ∧ Below w.heap.size w w' := by
  obtain ⟨p1, c1, rfl, h1⟩ := hs
  obtain ⟨p2, c2, rfl, h2⟩ := ha
  have HG := Lib.hid hg
  have HS := Lib.hid h1
  have HA := Lib.hid h2
  have HB := Lib.hid hb
  have HZ := Lib.hid hz
  have hodd := hg.d
  have hlen := hg.l
  obtain ⟨N, hN⟩ : ∃ N, N = g.sizes.length := ⟨_, rfl⟩
  have hNz : N ≤ 1000 := by omega
  unfold gtRow
  simp only
  rw [hodd, hlen, ← hN]
  have HN := Lib.hid hN
  clear hg h1 h2 hb hz hodd hlen hN
  go_enter Tryz.func14, Tryz.ntmps14
  go_wp2_with fail
  obtain ⟨W1, hW1⟩ : ∃ W1, W1 = w.alloc (.cells #[.string g.body, .slice p1 N c1, .slice p2 N c2, .bool hov, .int .i64 g.err, .bool false] 44) := ⟨_, rfl⟩
  rw [← hW1]
  have hk : Blk W1 w.heap.size #[.string g.body, .slice p1 N c1, .slice p2 N c2, .bool hov, .int .i64 g.err, .bool false] 44 := hW1 ▸ Blk.new w _ _
  have hbl : Below w.heap.size w W1 := hW1 ▸ (Below.refl _ _).alloc (Nat.le_refl _) _
  have y0 : W1.cell? ⟨w.heap.size, 0, none⟩ = some (.string g.body) := hk.cell 0
  have y1 : W1.cell? ⟨w.heap.size, 1, none⟩ = some (.slice p1 N c1) := hk.cell 1
  have y2 : W1.cell? ⟨w.heap.size, 2, none⟩ = some (.slice p2 N c2) := hk.cell 2
  have y5 : W1.cell? ⟨w.heap.size, 5, none⟩ = some (.bool false) := hk.cell 5
  have HBL := Lib.hid hbl
  clear hW1 hk hbl
  go_loopw [3, 9] (fun u3 u9 wr => ∃ k : Nat, k ≤ N ∧ u9 = .int .i64 k ∧ u3 = .int .i64 ((g.sizes.take k).sum) ∧ wr = W1) (fun _ u9 _ => N - (intOf u9).toNat)
  case atStart => exact ⟨0, Nat.zero_le _, rfl, rfl, rfl⟩
  case round =>
    obtain ⟨k, hkN, rfl, rfl, rfl⟩ := hrel
    obtain ⟨S, hS⟩ : ∃ S, S = (g.sizes.take k).sum := ⟨_, rfl⟩
    rw [← hS]
    have hSb : 0 ≤ S ∧ S ≤ 1000000 := by rw [hS]; exact HB.out k
    by_cases hlt : k < N
    · have hk1 : decide ((k : Int) < (N : Int)) = true := decide_eq_true (by omega)
      have hk2 : decide (k < N) = true := decide_eq_true hlt
      have hks : k < g.sizes.length := by rw [← HN.out]; exact hlt
      have hka : k < g.at_.length := by rw [HG.out.l]; exact hks
      obtain ⟨b1, o1, rfl, q1⟩ := HS.out k hks
      obtain ⟨b2, o2, rfl, q2⟩ := HA.out k hka
      have q1' := ((bcell HBL.out) b1 _ (World.block_lt_of_cell? w _ q1)).trans q1
      have q2' := ((bcell HBL.out) b2 _ (World.block_lt_of_cell? w _ q2)).trans q2
      rw [HG.out.a k hka, ← hS] at q2'
      obtain ⟨x, hx⟩ : ∃ x, x = g.sizes[k] := ⟨_, rfl⟩
      rw [← hx] at q1'
      have hS1 : (g.sizes.take (k + 1)).sum = S + x := by
        rw [List.take_add_one, List.getElem?_eq_getElem hks, hx, hS]
        show (g.sizes.take k ++ [g.sizes[k]]).sum = _
        rw [sum_snoc]
      have hSb1 : 0 ≤ S + x ∧ S + x ≤ 1000000 := by rw [← hS1]; exact HB.out (k + 1)
      have hwr : wrap64 (S + x) = S + x := IntWalk.wrap64_in _ ⟨by omega, by omega⟩
      have hne : (S != S) = false := by simp
      have HS1 := Lib.hid hS1
      have HLT := Lib.hid hlt
      clear q1 q2 hS1 hx hS hks hka hlt
      go_wp2_with fail
      go_roundw
      case rel => exact ⟨k + 1, HLT.out, rfl, by rw [HS1.out], by first | rfl | trivial⟩
      case measure =>
        have := HLT.out
        simp [intOf]
        omega
    · have hk1 : decide ((k : Int) < (N : Int)) = false := decide_eq_false (by omega)
      have hk2 : decide (k < N) = false := decide_eq_false hlt
      have hkk : k = N := by omega
      have hSs : N ≠ 0 → S = (g.body.size : Int) := fun h0 => by
        rcases HG.out.b with h | h
        · rw [HN.out, h] at h0
          exact absurd rfl h0
        · rw [hS, hkk, HN.out, List.take_length, ← h]
      by_cases h0 : N = 0
      · have hn0 : ((N : Int) == 0) = true := by simp [h0]
        clear hSs hS hkk
        go_wp2_with fail
        go_ret
        exact ⟨rfl, HBL.out⟩
      · have hn0 : ((N : Int) == 0) = false := by simp [h0]
        have hs2 := hSs h0
        subst hs2
        have hle : decide ((g.body.size : Int) ≤ (g.body.size : Int)) = true := decide_eq_true (Int.le_refl _)
        clear hSs hS hkk
        go_wp2_with fail
        go_ret
        exact ⟨rfl, HBL.out⟩
end Go.Proofs.YtbglakhojbhfbaaGreatDoor
-- EbC
namespace Go.Proofs.YtbglakhojbhfbaaGreatDoor
open Go.RowKit
theorem flds_of' {w : World} {A : Option Addr} {len cap : Nat} {l : List Fd} (h : Fds w A len l) : Flds w (.slice A len cap) l := by
  obtain ⟨h1, h2⟩ := h
  subst h1
  refine ⟨A, cap, rfl, fun i hi => ?_⟩
  obtain ⟨b, off, hA, _, hc⟩ := h2 (by omega)
  obtain ⟨c1, c2⟩ := hc i l[i] (List.getElem?_eq_getElem hi)
  rw [Nat.mul_comm] at c1 c2
  exact ⟨b, off, hA, c1, c2⟩
theorem nums_of {w : World} {A : Option Addr} {len cap : Nat} {l : List Int} (h : Ints w A len l) : Nums w (.slice A len cap) l := by
  obtain ⟨h1, h2⟩ := h
  subst h1
  refine ⟨A, cap, rfl, fun i hi => ?_⟩
  obtain ⟨b, off, hA, _, hc⟩ := h2 (by omega)
  exact ⟨b, off, hA, (hc i l[i] (List.getElem?_eq_getElem hi)).1⟩
theorem encC_len : ∀ (ps : List ByteArray), (∀ p ∈ ps, p.data.toList.length ≤ 4095) → (encC ps).length ≤ 7 * ps.length + (ps.flatMap fun p => p.data.toList).length
  | [], _ => Nat.le_refl _
  | p :: ps, h => by
    have e : encC (p :: ps) = (figL 16 p.data.toList.length ++ 13 :: 10 :: (p.data.toList ++ [13, 10])) ++ encC ps := rfl
    have ih := encC_len ps (fun q hq => h q (by simp [hq]))
    have hp := h p (by simp)
    have := figL_hexlen p.data.toList.length 2 (by omega)
    rw [e, List.length_append, List.flatMap_cons, List.length_append]
    simp only [List.length_append, List.length_cons, List.length_nil]
    omega
theorem lsum_flds : ∀ (l : List Fd), (∀ g ∈ l, g.1.size ≤ 100 ∧ g.2.size ≤ 300) → lsum (l.map fun f => (flineB f.1 f.2).data.toList) ≤ 404 * l.length
  | [], _ => Nat.le_refl _
  | f :: l, h => by
    have e : lsum ((f :: l).map fun f => (flineB f.1 f.2).data.toList) = (flineB f.1 f.2).data.toList.length + 2 + lsum (l.map fun f => (flineB f.1 f.2).data.toList) := by unfold lsum; simp
    have ih := lsum_flds l (fun g hg => h g (by simp [hg]))
    have h1 := flineB_size f.1 f.2
    obtain ⟨h2, h3⟩ := h f (by simp)
    rw [e, ← Lib.size_eq, List.length_cons]
    omega
theorem few_low {l : List Fd} (h : fewF l = true) : l.length ≤ 40 ∧ ∀ g ∈ l, g.1.size ≤ 100 ∧ g.2.size ≤ 300 := by
  unfold fewF at h
  rw [Bool.and_eq_true, decide_eq_true_eq] at h
  refine ⟨h.1, fun g hg => ?_⟩
  have := List.all_eq_true.1 h.2 g hg
  simpa using this
theorem totT_append (a b : List Pc) : totT (a ++ b) = totT a + totT b := by unfold totT; rw [List.map_append, List.sum_append]
theorem totT_outC : ∀ (ps : List ByteArray), totT (outC ps) = (ps.flatMap fun p => p.data.toList).length
  | [] => rfl
  | p :: ps => by
    have e : outC (p :: ps) = [⟨2, p.data.toList.length, ⟨#[]⟩⟩, ⟨3, 0, p⟩] ++ outC ps := rfl
    rw [e, totT_append, totT_outC ps, List.flatMap_cons, List.length_append, ← Lib.size_eq]
    show 0 + (p.size + 0) + _ = _
    omega
/-- What comes back, with its bounds. -/
structure BackA (k n : Int) (z : List Int) (s : ByteArray) (l : List Fd) (t : ByteArray) : Prop where
  b : Back k n z s l t
  tt : totT ((bFeed ebM (bNew ebM k n) t.data.toList).1.out ++ (bClose (bTold (bFeed ebM (bNew ebM k n) t.data.toList).1)).out) ≤ 1000000
  ts : t.size ≤ 100000
theorem sum_offK : ∀ (z : List Int), (∀ n ∈ z, 1 ≤ n) → ∀ k, (z.take k).sum = (offK z k : Int)
  | [], _, k => by unfold offK; simp
  | n :: z, h, 0 => by unfold offK; simp
  | n :: z, h, k + 1 => by
    have ih := sum_offK z (fun m hm => h m (by simp [hm])) k
    have hn := h n (by simp)
    unfold offK at ih ⊢
    rw [List.take_succ_cons, List.sum_cons, ih, List.map_cons, List.sum_cons]
    omega
theorem sums_ok {k n : Int} {z : List Int} {s : ByteArray} {l : List Fd} {t : ByteArray} (h : bodyRes k n z s l = (t, 0)) (hs : s.size ≤ 2000) (j : Nat) : 0 ≤ (z.take j).sum ∧ (z.take j).sum ≤ 1000000 := by
  unfold bodyRes at h
  split at h
  · cases h
  split at h
  · split at h
    · rename_i h2
      have : z = [] := List.eq_nil_of_length_eq_zero h2.2.1
      subst this
      simp
    · cases h
  split at h
  · cases h
  · rename_i hc
    have hc' : cutF z s.size = some 0 := by
      cases e : cutF z s.size with
      | none => exact absurd (by rw [e]; simp) hc
      | some y =>
        by_cases hy : y = 0
        · rw [hy]
        · exact absurd (by rw [e]; simp [hy]) hc
    obtain ⟨hpos, hoff, _⟩ := cutF_off hc'
    rw [sum_offK z hpos]
    have hle : offK z j ≤ offK z z.length := by
      rcases Nat.le_total j z.length with hj | hj
      · exact offK_mono z hj
      · unfold offK
        rw [List.take_of_length_le hj, List.take_length]
        exact Nat.le_refl _
    omega
theorem back_of1 {k n : Int} {s : ByteArray} (h : Back1 k n s) : Back k n [] s [] s :=
  ⟨h.used, h.over, h.tr, ⟨{ gt0 with body := s }, h.g, gt_body s, rfl, rfl⟩, h.len, h.len2⟩
/-- How many octets pieces tell: those that are gathered. -/
theorem gath_tot : ∀ (l : List Pc) (g : Gt), (∀ p ∈ l, p.k = 3 ∨ p.t.size = 0) → (l.foldl gStep g).body.size = g.body.size + totT l
  | [], g, _ => rfl
  | p :: l, g, h => by
    rw [List.foldl_cons, gath_tot l (gStep g p) (fun q hq => h q (by simp [hq]))]
    have hb : g.guard.body = g.body := by unfold Gt.guard; split <;> rfl
    have e : totT (p :: l) = p.t.size + totT l := rfl
    have hs : (gStep g p).body.size = g.body.size + p.t.size := by
      unfold gStep Gt.take
      rcases h p (by simp) with h1 | h1
      · rw [if_neg (by rw [h1]; decide), if_pos h1]
        show (g.guard.body ++ p.t).size = _
        rw [hb, ByteArray.size_append]
      · rw [h1]
        split
        · show g.guard.body.size = _; rw [hb]; rfl
        split
        · show (g.guard.body ++ p.t).size = _; rw [hb, ByteArray.size_append, h1]
        split
        · show g.guard.body.size = _; rw [hb]; rfl
        split
        · show g.guard.body.size = _; rw [hb]; rfl
        · show g.guard.body.size = _; rw [hb]; rfl
    rw [hs, e, Nat.add_assoc]
/-- Pieces of data alone have octets. -/
def Plain (l : List Pc) : Prop := ∀ p ∈ l, p.k = 3 ∨ p.t.size = 0
theorem plain_snoc {l : List Pc} {p : Pc} (h : Plain l) (hp : p.k = 3 ∨ p.t.size = 0) : Plain (l ++ [p]) := fun q hq => by
  rcases List.mem_append.1 hq with hq | hq
  · exact h q hq
  · have : q = p := by simpa using hq
    rw [this]; exact hp
theorem plain_wrong {s : BdS} {e : Int} (h : Plain s.out) : Plain (s.wrong e).out := plain_snoc h (Or.inr rfl)
theorem plain_ends {s : BdS} (h : Plain s.out) : Plain s.ends.out := plain_snoc h (Or.inr rfl)
theorem plain_whole {s : BdS} {x : List UInt8} (h : Plain s.out) : Plain (s.whole x).1.out := by
  unfold BdS.whole
  simp only
  split
  · exact h
  · exact plain_wrong h
theorem plain_step (m : Lm) {s : BdS} {x : List UInt8} (h : Plain s.out) : Plain (bStep m s x).1.out := by
  cases hm : s.md with
  | nothing => have e : bStep m s x = (s, 0) := by unfold bStep; rw [hm]
               rw [e]; exact h
  | rest => rw [bStep_rest hm]; exact plain_snoc h (Or.inl rfl)
  | sized =>
    have e : bStep m s x = (if (s.some x).1.left = 0 then (s.some x).1.ends else (s.some x).1, (s.some x).2) := by unfold bStep; rw [hm]
    rw [e]
    have h1 : Plain (s.some x).1.out := plain_snoc h (Or.inl rfl)
    by_cases hz : (s.some x).1.left = 0
    · rw [if_pos hz]; exact plain_ends h1
    · rw [if_neg hz]; exact h1
  | data =>
    have e : bStep m s x = (if (s.some x).1.left = 0 then { (s.some x).1 with md := .cr } else (s.some x).1, (s.some x).2) := by unfold bStep; rw [hm]
    rw [e]
    have h1 : Plain (s.some x).1.out := plain_snoc h (Or.inl rfl)
    by_cases hz : (s.some x).1.left = 0
    · rw [if_pos hz]; exact h1
    · rw [if_neg hz]; exact h1
  | cr =>
    have e : bStep m s x = if x.head? = some 13 then ({ s with md := .lf }, 1) else (s.wrong 3, 0) := by unfold bStep; rw [hm]
    rw [e]
    by_cases hz : x.head? = some 13
    · rw [if_pos hz]; exact h
    · rw [if_neg hz]; exact plain_wrong h
  | lf =>
    have e : bStep m s x = if x.head? = some 10 then ({ s with ln := ln0 m.line, md := .size }, 1) else (s.wrong 3, 0) := by unfold bStep; rw [hm]
    rw [e]
    by_cases hz : x.head? = some 10
    · rw [if_pos hz]; exact h
    · rw [if_neg hz]; exact plain_wrong h
  | size =>
    rw [bStep_size hm]
    have hw : Plain (s.whole x).1.out := plain_whole h
    split
    · exact hw
    · show Plain (ite _ _ _ : BdS).out
      split
      · exact plain_wrong hw
      split
      · exact hw
      · exact plain_snoc hw (Or.inr rfl)
  | trailer =>
    rw [bStep_trailer hm]
    have hw : Plain (s.whole x).1.out := plain_whole h
    split
    · exact hw
    · show Plain (ite _ _ _ : BdS).out
      split
      · exact hw
      split
      · exact plain_wrong hw
      split
      · exact plain_wrong hw
      · exact plain_ends hw
theorem pcl_run (m : Lm) : ∀ (f : Nat) (s : BdS) (x : List UInt8), Plain s.out → Plain (bRun m f s x).1.out
  | 0, s, x, h => h
  | f + 1, s, x, h => by
    rw [bRun]
    split
    · exact h
    · exact pcl_run m f _ _ (plain_step m h)
theorem plain_new (m : Lm) (k n : Int) : Plain (bNew m k n).out := by
  have h0 : Plain [] := fun p hp => by cases hp
  unfold bNew
  simp only
  repeat' split
  all_goals first
    | exact plain_wrong h0
    | exact plain_ends h0
    | exact h0
theorem plain_close {s : BdS} (h : Plain s.out) : Plain (bClose s).out := by
  unfold bClose
  split
  · split
    · exact plain_ends h
    · exact plain_wrong h
  · exact h
theorem back_tot {k n : Int} {z : List Int} {s : ByteArray} {l : List Fd} {t : ByteArray} (h : Back k n z s l t) : totT ((bFeed ebM (bNew ebM k n) t.data.toList).1.out ++ (bClose (bTold (bFeed ebM (bNew ebM k n) t.data.toList).1)).out) = s.size := by
  obtain ⟨g, hg, _, hb, _⟩ := h.g
  have h1 : Plain (bFeed ebM (bNew ebM k n) t.data.toList).1.out := pcl_run _ _ _ _ (plain_new _ _ _)
  have h2 : Plain (bClose (bTold (bFeed ebM (bNew ebM k n) t.data.toList).1)).out := plain_close (fun p hp => by cases hp)
  have := gath_tot ((bFeed ebM (bNew ebM k n) t.data.toList).1.out ++ (bClose (bTold (bFeed ebM (bNew ebM k n) t.data.toList).1)).out) gt0 (fun p hp => (List.mem_append.1 hp).elim (h1 p) (h2 p))
  have e : (gathP ((bFeed ebM (bNew ebM k n) t.data.toList).1.out ++ (bClose (bTold (bFeed ebM (bNew ebM k n) t.data.toList).1)).out)).body.size = s.size := by rw [hg]; exact congrArg ByteArray.size hb
  unfold gathP at e
  rw [e] at this
  have e0 : gt0.body.size = 0 := rfl
  omega
theorem ebk_all {k n : Int} {z : List Int} {s : ByteArray} {l : List Fd} {t : ByteArray} (h : bodyRes k n z s l = (t, 0)) (hs : s.size ≤ 2000) (hz : z.length ≤ 300) (hl : fewF l = true) : BackA k n z s l t := by
  obtain ⟨hl1, hl2⟩ := few_low hl
  have hlsum := lsum_flds l hl2
  have key : Back k n z s l t ∧ t.size ≤ 100000 := by
    unfold bodyRes at h
    split at h
    · cases h
    rename_i hn
    split at h
    · rename_i hk
      split at h
      · rename_i h2
        have ez : z = [] := List.eq_nil_of_length_eq_zero h2.2.1
        have el : l = [] := List.eq_nil_of_length_eq_zero h2.2.2
        have et : s = t := (Prod.mk.inj h).1
        subst ez el et
        have hf := h2.1
        unfold fitsB at hf
        rw [Bool.or_eq_true, Bool.or_eq_true, decide_eq_true_eq, decide_eq_true_eq, decide_eq_true_eq] at hf
        refine ⟨?_, by omega⟩
        rcases hf with ⟨rfl, h0⟩ | ⟨rfl, h0⟩ | rfl
        · exact back_of1 (back_none n s (by omega) h0)
        · exact back_of1 (back_sized n s (by omega) h0)
        · exact back_of1 (back_close n s (by omega))
      · cases h
    · rename_i hk
      have hk2 : k = 2 := by omega
      split at h
      · cases h
      · rename_i hc
        split at h
        · cases h
        · rename_i hb
          have hc' : cutF z s.size = some 0 := by
            cases e : cutF z s.size with
            | none => exact absurd (by rw [e]; simp) hc
            | some y =>
              by_cases hy : y = 0
              · rw [hy]
              · exact absurd (by rw [e]; simp [hy]) hc
          have hb' : badF l = false := Bool.eq_false_iff.2 hb
          have et : chunksL (cutP s z z.length) ++ lastB l = t := (Prod.mk.inj h).1
          subst et hk2
          refine ⟨back_chunks n z s l (by omega) hc' hb' hs hz hl1 (by omega), ?_⟩
          obtain ⟨hpos, hoff, _⟩ := cutF_off hc'
          have hoff' : offK z z.length = s.size := by omega
          have hmem := cutP_mem s z hpos hoff'
          have hcat := (cutP_spec s z hpos hoff' z.length (Nat.le_refl _)).1
          have hlen := encC_len (cutP s z z.length) (fun p hp => by have := (hmem p hp).2; omega)
          rw [hcat, List.length_take, cutP_length] at hlen
          have hd : (chunksL (cutP s z z.length) ++ lastB l).data.toList = encC (cutP s z z.length) ++ (48 :: 13 :: 10 :: (encL (l.map fun f => (flineB f.1 f.2).data.toList) ++ 13 :: 10 :: [])) := by
            have : ∀ a b : ByteArray, (a ++ b).data.toList = a.data.toList ++ b.data.toList := fun a b => by simp
            rw [this, last_enc]
            unfold chunksL
            rw [chunks_enc _ _ (fun p hp => (hmem p hp).1)]
            rfl
          rw [Lib.size_eq, hd]
          simp only [List.length_append, List.length_cons, List.length_nil, encL_length]
          omega
  exact ⟨key.1, by rw [back_tot key.1]; omega, key.2⟩
theorem bodyRes_err {k n : Int} {z : List Int} {s : ByteArray} {l : List Fd} {t : ByteArray} {e : Int} (h : bodyRes k n z s l = (t, e)) (he : e ≠ 0) : t = ⟨#[]⟩ := by
  unfold bodyRes at h
  repeat' split at h
  all_goals first
    | exact ((Prod.mk.inj h).1).symm
    | exact absurd ((Prod.mk.inj h).2).symm he
end Go.Proofs.YtbglakhojbhfbaaGreatDoor
-- EncodeBack
namespace Go.Proofs.YtbglakhojbhfbaaGreatDoor
open Go.RowKit
set_option maxRecDepth 100000 in
set_option maxHeartbeats 2000000 in
theorem eb_a {w : World} {Az At : Option Addr} {lz cz lt ct : Nat} {k n : Int} {z : List Int} {s : ByteArray} {l : List Fld} {c0 c1 c2 c3 c4 c5 c6 c7 c9 : Value} (hz : Ints w Az lz z) (ht : Fds w At lt l) (h1 : 2000 < s.size) : Calls Tryz.prog 3 #[.agg #[.int .i64 k, .int .i64 n], .slice Az lz cz, .agg #[c0, c1, c2, c3, c4, c5, c6, c7, .string s, c9, .slice At lt ct]] w fun e w' => e = .returned (.bool true) ∧ Below w.heap.size w w' := by
  have d1 : (2000 : Int) < s.size := by omega
  obtain ⟨w2, hw2⟩ : ∃ w2, w2 = ((w.alloc (.cells #[.int .i64 k, .int .i64 n] 23)).alloc (.cells #[c0, c1, c2, c3, c4, c5, c6, c7, .string s, c9, .slice At lt ct] 29)) := ⟨_, rfl⟩
  have KF : Hid (Blk w2 w.heap.size #[.int .i64 k, .int .i64 n] 23) := by show Blk _ _ _ _; rw [hw2]; exact (Blk.new _ _ _).alloc _
  have KM : Hid (Blk w2 (w.heap.size + 1) #[c0, c1, c2, c3, c4, c5, c6, c7, .string s, c9, .slice At lt ct] 29) := by show Blk _ _ _ _; rw [hw2]; exact Blk.new' (by simp)
  have HB : Hid (Below w.heap.size w w2) := by show Below _ _ _; rw [hw2]; exact (((Below.refl _ _).alloc (Nat.le_refl _) _).alloc (by simp) _)
  have c8' : w2.cell? ⟨w.heap.size + 1, 8, none⟩ = some (.string s) := KM.out.cell 8
  have c10' : w2.cell? ⟨w.heap.size + 1, 10, none⟩ = some (.slice At lt ct) := KM.out.cell 10
  have HW := Lib.hid hw2
  have HZ := Lib.hid hz
  have HT := Lib.hid ht
  clear hw2 hz ht h1
  go_enter Tryz.func3, Tryz.ntmps3
  go_wp2_with fail
  rw [← HW.out]
  go_quiet (fail)
  go_wp2_with fail
  refine (lives25 _).mono ?_
  rintro e' w4 ⟨rfl, hb⟩
  have HL := Lib.hid hb
  clear hb
  go_wp2_with fail
  go_ret
  have hd := (HB.out.trans (⟨rfl, rfl, rfl, Nat.le_refl _, fun _ _ => rfl⟩ : Below w.heap.size w2 (w2.drewN nq)))
  exact ⟨rfl, hd.trans (HL.out.mono hd.size)⟩
set_option maxRecDepth 100000 in
set_option maxHeartbeats 2000000 in
theorem eb_b {w : World} {Az At : Option Addr} {lz cz lt ct : Nat} {k n : Int} {z : List Int} {s : ByteArray} {l : List Fld} {c0 c1 c2 c3 c4 c5 c6 c7 c9 : Value} (hz : Ints w Az lz z) (ht : Fds w At lt l) (h1 : s.size ≤ 2000) (h2 : 300 < lz) : Calls Tryz.prog 3 #[.agg #[.int .i64 k, .int .i64 n], .slice Az lz cz, .agg #[c0, c1, c2, c3, c4, c5, c6, c7, .string s, c9, .slice At lt ct]] w fun e w' => e = .returned (.bool true) ∧ Below w.heap.size w w' := by
  have d1 : decide ((2000 : Int) < s.size) = false := by rw [decide_eq_false_iff_not]; omega
  have d2 : (300 : Int) < lz := by omega
  obtain ⟨w2, hw2⟩ : ∃ w2, w2 = ((w.alloc (.cells #[.int .i64 k, .int .i64 n] 23)).alloc (.cells #[c0, c1, c2, c3, c4, c5, c6, c7, .string s, c9, .slice At lt ct] 29)) := ⟨_, rfl⟩
  have KF : Hid (Blk w2 w.heap.size #[.int .i64 k, .int .i64 n] 23) := by show Blk _ _ _ _; rw [hw2]; exact (Blk.new _ _ _).alloc _
  have KM : Hid (Blk w2 (w.heap.size + 1) #[c0, c1, c2, c3, c4, c5, c6, c7, .string s, c9, .slice At lt ct] 29) := by show Blk _ _ _ _; rw [hw2]; exact Blk.new' (by simp)
  have HB : Hid (Below w.heap.size w w2) := by show Below _ _ _; rw [hw2]; exact (((Below.refl _ _).alloc (Nat.le_refl _) _).alloc (by simp) _)
  have c8' : w2.cell? ⟨w.heap.size + 1, 8, none⟩ = some (.string s) := KM.out.cell 8
  have c10' : w2.cell? ⟨w.heap.size + 1, 10, none⟩ = some (.slice At lt ct) := KM.out.cell 10
  have HW := Lib.hid hw2
  have HZ := Lib.hid hz
  have HT := Lib.hid ht
  clear hw2 hz ht h1 h2
  go_enter Tryz.func3, Tryz.ntmps3
  go_wp2_with fail
  rw [← HW.out]
  go_quiet (fail)
  go_wp2_with fail
  refine (lives25 _).mono ?_
  rintro e' w4 ⟨rfl, hb⟩
  have HL := Lib.hid hb
  clear hb
  go_wp2_with fail
  go_ret
  have hd := (HB.out.trans (⟨rfl, rfl, rfl, Nat.le_refl _, fun _ _ => rfl⟩ : Below w.heap.size w2 (w2.drewN nq)))
  exact ⟨rfl, hd.trans (HL.out.mono hd.size)⟩
set_option maxRecDepth 100000 in
set_option maxHeartbeats 2000000 in
theorem eb_c {w : World} {Az At : Option Addr} {lz cz lt ct : Nat} {k n : Int} {z : List Int} {s : ByteArray} {l : List Fld} {c0 c1 c2 c3 c4 c5 c6 c7 c9 : Value} (hz : Ints w Az lz z) (ht : Fds w At lt l) (hlt : lt ≤ 9223372036854775807) (h1 : s.size ≤ 2000) (h2 : lz ≤ 300) (h3 : fewF l = false) : Calls Tryz.prog 3 #[.agg #[.int .i64 k, .int .i64 n], .slice Az lz cz, .agg #[c0, c1, c2, c3, c4, c5, c6, c7, .string s, c9, .slice At lt ct]] w fun e w' => e = .returned (.bool true) ∧ Below w.heap.size w w' := by
  have d1 : decide ((2000 : Int) < s.size) = false := by rw [decide_eq_false_iff_not]; omega
  have d2 : decide ((300 : Int) < lz) = false := by rw [decide_eq_false_iff_not]; omega
  obtain ⟨w2, hw2⟩ : ∃ w2, w2 = ((w.alloc (.cells #[.int .i64 k, .int .i64 n] 23)).alloc (.cells #[c0, c1, c2, c3, c4, c5, c6, c7, .string s, c9, .slice At lt ct] 29)) := ⟨_, rfl⟩
  have KF : Hid (Blk w2 w.heap.size #[.int .i64 k, .int .i64 n] 23) := by show Blk _ _ _ _; rw [hw2]; exact (Blk.new _ _ _).alloc _
  have KM : Hid (Blk w2 (w.heap.size + 1) #[c0, c1, c2, c3, c4, c5, c6, c7, .string s, c9, .slice At lt ct] 29) := by show Blk _ _ _ _; rw [hw2]; exact Blk.new' (by simp)
  have HB : Hid (Below w.heap.size w w2) := by show Below _ _ _; rw [hw2]; exact (((Below.refl _ _).alloc (Nat.le_refl _) _).alloc (by simp) _)
  have c8' : w2.cell? ⟨w.heap.size + 1, 8, none⟩ = some (.string s) := KM.out.cell 8
  have c10' : w2.cell? ⟨w.heap.size + 1, 10, none⟩ = some (.slice At lt ct) := KM.out.cell 10
  have HW := Lib.hid hw2
  have HZ := Lib.hid hz
  have HT := Lib.hid ht
  have H3 := Lib.hid h3
  clear hw2 hz ht h1 h2 h3
  go_enter Tryz.func3, Tryz.ntmps3
  go_wp2_with fail
  rw [← HW.out]
  go_quiet (fail)
  go_wp2_with fail
  have hd := (HB.out.trans (⟨rfl, rfl, rfl, Nat.le_refl _, fun _ _ => rfl⟩ : Below w.heap.size w2 (w2.drewN nq)))
  have HD := Lib.hid hd
  have KF1 : Hid (Blk (w2.drewN nq) w.heap.size #[.int .i64 k, .int .i64 n] 23) := KF.out.drewN nq
  clear hd
  refine (few_any (cap := ct) (HT.out.below HD.out) hlt).mono ?_
  rw [H3.out]
  rintro e' w3 ⟨rfl, hb⟩
  have HB3 := Lib.hid (HD.out.trans (hb.mono HD.out.size))
  have KF3 := Lib.hid (KF1.out.call hb)
  clear hb
  go_wp2_with fail
  refine (lives25 _).mono ?_
  rintro e' w4 ⟨rfl, hb⟩
  have HL := Lib.hid hb
  clear hb
  go_wp2_with fail
  go_ret
  exact ⟨rfl, HB3.out.trans (HL.out.mono HB3.out.size)⟩
set_option maxRecDepth 100000 in
set_option maxHeartbeats 2000000 in
theorem eb_d {w : World} {Az At : Option Addr} {lz cz lt ct : Nat} {k n : Int} {z : List Int} {s : ByteArray} {l : List Fld} {c0 c1 c2 c3 c4 c5 c6 c7 c9 : Value} (hz : Ints w Az lz z) (ht : Fds w At lt l) (hlt : lt ≤ 9223372036854775807) (h1 : s.size ≤ 2000) (h2 : lz ≤ 300) (h3 : fewF l = true) {R : ByteArray} {e : Int} (hr : bodyRes k n z s l = (R, e)) (he : e ≠ 0) : Calls Tryz.prog 3 #[.agg #[.int .i64 k, .int .i64 n], .slice Az lz cz, .agg #[c0, c1, c2, c3, c4, c5, c6, c7, .string s, c9, .slice At lt ct]] w fun e w' => e = .returned (.bool true) ∧ Below w.heap.size w w' := by
  have hR := bodyRes_err hr he
  subst hR
  have e1 : (e != 0) = true := by rw [bne_iff_ne]; exact he
  have e2 : (e == 0) = false := by rw [beq_eq_false_iff_ne]; exact he
  have d1 : decide ((2000 : Int) < s.size) = false := by rw [decide_eq_false_iff_not]; omega
  have d2 : decide ((300 : Int) < lz) = false := by rw [decide_eq_false_iff_not]; omega
  obtain ⟨w2, hw2⟩ : ∃ w2, w2 = ((w.alloc (.cells #[.int .i64 k, .int .i64 n] 23)).alloc (.cells #[c0, c1, c2, c3, c4, c5, c6, c7, .string s, c9, .slice At lt ct] 29)) := ⟨_, rfl⟩
  have KF : Hid (Blk w2 w.heap.size #[.int .i64 k, .int .i64 n] 23) := by show Blk _ _ _ _; rw [hw2]; exact (Blk.new _ _ _).alloc _
  have KM : Hid (Blk w2 (w.heap.size + 1) #[c0, c1, c2, c3, c4, c5, c6, c7, .string s, c9, .slice At lt ct] 29) := by show Blk _ _ _ _; rw [hw2]; exact Blk.new' (by simp)
  have HB : Hid (Below w.heap.size w w2) := by show Below _ _ _; rw [hw2]; exact (((Below.refl _ _).alloc (Nat.le_refl _) _).alloc (by simp) _)
  have c8' : w2.cell? ⟨w.heap.size + 1, 8, none⟩ = some (.string s) := KM.out.cell 8
  have c10' : w2.cell? ⟨w.heap.size + 1, 10, none⟩ = some (.slice At lt ct) := KM.out.cell 10
  have HW := Lib.hid hw2
  have HZ := Lib.hid hz
  have HT := Lib.hid ht
  have H3 := Lib.hid h3
  have hf := few_spec h3
  have hlt2 : lt ≤ 1000 := by have := ht.1; omega
  have H1 : Hid (∀ W : World, Below w.heap.size w W → Calls Tryz.prog 6 #[.agg #[.int .i64 k, .int .i64 n], .slice Az lz cz, .string s, .slice At lt ct] W fun o w' => o = .returned (.tuple #[.string ⟨#[]⟩, .int .i64 e]) ∧ Below W.heap.size W w') :=
    fun W hW => body_any (hz.below hW) (ht.below hW) (by omega) (by omega) hlt2 hf.2 hr
  clear hw2 hz ht h1 h2 h3 hr hf he
  go_enter Tryz.func3, Tryz.ntmps3
  go_wp2_with fail
  rw [← HW.out]
  go_quiet (fail)
  go_wp2_with fail
  have hd := (HB.out.trans (⟨rfl, rfl, rfl, Nat.le_refl _, fun _ _ => rfl⟩ : Below w.heap.size w2 (w2.drewN nq)))
  have HD := Lib.hid hd
  have KF1 : Hid (Blk (w2.drewN nq) w.heap.size #[.int .i64 k, .int .i64 n] 23) := KF.out.drewN nq
  clear hd
  refine (few_any (cap := ct) (HT.out.below HD.out) hlt).mono ?_
  rw [H3.out]
  rintro e' w3 ⟨rfl, hb⟩
  have HB3 := Lib.hid (HD.out.trans (hb.mono HD.out.size))
  have KF3 := Lib.hid (KF1.out.call hb)
  clear hb
  have f0 : w3.cell? ⟨w.heap.size, 0, none⟩ = some (.int .i64 k) := KF3.out.cell 0
  have f1 : w3.cell? ⟨w.heap.size, 1, none⟩ = some (.int .i64 n) := KF3.out.cell 1
  go_wp2_with fail
  refine (H1.out _ HB3.out).mono ?_
  rintro e' w4 ⟨rfl, hb⟩
  have HB4 := Lib.hid (HB3.out.trans (hb.mono HB3.out.size))
  have KF4 := Lib.hid (KF3.out.call hb)
  clear f0 f1 hb
  have f0 : w4.cell? ⟨w.heap.size, 0, none⟩ = some (.int .i64 k) := KF4.out.cell 0
  have f1 : w4.cell? ⟨w.heap.size, 1, none⟩ = some (.int .i64 n) := KF4.out.cell 1
  go_wp2_with fail
  refine (lives25 _).mono ?_
  rintro e' w5 ⟨rfl, hb⟩
  have HL := Lib.hid hb
  clear hb
  go_wp2_with fail
  go_ret
  exact ⟨rfl, HB4.out.trans (HL.out.mono HB4.out.size)⟩
/-- Pieces elsewhere grow. -/
theorem BdAt.pieces {P : Nat → Prop} {w w1 : World} {D n0 : Nat} {m : Lm} {s : BdS} {V : BdV} (h : BdAt w D n0 m s V) (hv : V.vo = .slice none 0 0) (t : Touch P w w1) (hP : OfTy w P [79]) : BdAt w1 D n0 m s V :=
  ⟨h.k.touch t (hP.not h.k (by decide)), h.d, own_touch h.o t (fun k hk => by rw [hv] at hk; cases hk), h.r.touch t (fun j hj => by obtain ⟨cs, t, hm, hb⟩ := hP j hj; exact ⟨cs, t, List.mem_cons_of_mem _ hm, hb⟩)⟩
theorem close_none {s : BdS} (h : (bClose (bTold s)).out = []) : (bTold s).opens = false := by
  cases ho : (bTold s).opens with
  | false => rfl
  | true =>
    unfold bClose at h
    rw [if_pos ho] at h
    split at h
    · unfold BdS.ends BdS.put at h
      simp at h
    · unfold BdS.wrong BdS.put at h
      simp at h
theorem sames {v v' : Value} {l : List Int} {w : World} (h : Nums w v l) (h' : Nums w v' l) (hz : l.length ≤ 1000) : Calls Tryz.prog 11 #[v, v'] w fun e w' => e = .returned (.bool true) ∧ Below w.heap.size w w' := by
  have := isame_any v v' l l w h h' (by omega) (by omega)
  rw [decide_eq_true rfl] at this
  exact this
theorem samef {v v' : Value} {l : List Fd} {w : World} (h : Flds w v l) (h' : Flds w v' l) (hz : l.length ≤ 1000) : Calls Tryz.prog 12 #[v, v'] w fun e w' => e = .returned (.bool true) ∧ Below w.heap.size w w' := by
  have := fsame_any v v' l l w h h' (by omega) (by omega)
  rw [decide_eq_true rfl] at this
  exact this
set_option maxRecDepth 100000 in
set_option maxHeartbeats 8000000 in
theorem eb_e {w : World} {Az At : Option Addr} {lz cz lt ct : Nat} {k n : Int} {z : List Int} {s : ByteArray} {l : List Fld} {c0 c1 c2 c3 c4 c5 c6 c7 c9 : Value} (hz : Ints w Az lz z) (ht : Fds w At lt l) (hlt : lt ≤ 9223372036854775807) (hn2 : n ≤ 9223372036854775807) (h1 : s.size ≤ 2000) (h2 : lz ≤ 300) (h3 : fewF l = true) {mx : Int} (hmx : w.cell? ⟨0, 0, none⟩ = some (.int .i64 mx)) {R : ByteArray} (hr : bodyRes k n z s l = (R, 0)) : Calls Tryz.prog 3 #[.agg #[.int .i64 k, .int .i64 n], .slice Az lz cz, .agg #[c0, c1, c2, c3, c4, c5, c6, c7, .string s, c9, .slice At lt ct]] w fun e w' => e = .returned (.bool true) ∧ Below w.heap.size w w' := by
  have hzl : z.length ≤ 300 := by have := hz.1; omega
  obtain ⟨hback, htt, hts⟩ := ebk_all hr h1 hzl h3
  have hsum := sums_ok hr h1
  have hl40 : l.length ≤ 1000 := by have := (few_low h3).1; omega
  obtain ⟨F, hF⟩ : ∃ F, F = bFeed ebM (bNew ebM k n) R.data.toList := ⟨_, rfl⟩
  have hused : F.2 = R.size := by rw [hF]; exact hback.used
  have hover : (bClose (bTold F.1)).over = true := by rw [hF]; exact hback.over
  have htr : (bClose (bTold F.1)).tr = l := by rw [hF]; exact hback.tr
  obtain ⟨g, hg1, hg2, hg3, hg4⟩ := hback.g
  rw [← hF] at hg1 htt
  have hlen1 : F.1.out.length ≤ 1000 := by rw [hF]; exact hback.len
  have hlen2 : (bClose (bTold F.1)).out.length ≤ 1 := by rw [hF]; exact hback.len2
  obtain ⟨gb, gs, ga, go, ge, gd⟩ := g
  simp only at hg1 hg3 hg4
  have hg3' := hg3.symm
  have hg4' := hg4.symm
  subst hg3' hg4'
  have hodd : gd = false := hg2.d
  subst hodd
  have h0 : 0 < w.heap.size := World.block_lt_of_cell? w _ hmx
  have HMX := Lib.hid hmx
  have H0 := Lib.hid h0
  have hcl : BdOk ebM (bClose (bTold F.1)) := by rw [hF]; exact bClose_ok (bTold_ok (bRun_ok ebM _ _ _ (bNew_ok ebM k n hn2)).1)
  have HCL := Lib.hid hcl
  have HF := Lib.hid hF
  have HU := Lib.hid hused
  have HO := Lib.hid hover
  have HTR := Lib.hid htr
  have HG1 := Lib.hid hg1
  have HG2 := Lib.hid hg2
  have HTT := Lib.hid htt
  have HL1 := Lib.hid hlen1
  have HL2 := Lib.hid hlen2
  have HSUM := Lib.hid hsum
  have HTS := Lib.hid hts
  have HZL := Lib.hid hzl
  have HL40 := Lib.hid hl40
  have HOK := Lib.hid (bNew_ok ebM k n hn2)
  have HO0 := Lib.hid (show (bNew ebM k n).out.length ≤ 1000 by
    unfold bNew
    simp only
    repeat' split
    all_goals first | exact Nat.zero_le _ | exact Nat.le_trans (Nat.le_refl 1) (by decide))
  have d1 : decide ((2000 : Int) < s.size) = false := by rw [decide_eq_false_iff_not]; omega
  have d2 : decide ((300 : Int) < lz) = false := by rw [decide_eq_false_iff_not]; omega
  obtain ⟨w2, hw2⟩ : ∃ w2, w2 = ((w.alloc (.cells #[.int .i64 k, .int .i64 n] 23)).alloc (.cells #[c0, c1, c2, c3, c4, c5, c6, c7, .string s, c9, .slice At lt ct] 29)) := ⟨_, rfl⟩
  have KF : Hid (Blk w2 w.heap.size #[.int .i64 k, .int .i64 n] 23) := by show Blk _ _ _ _; rw [hw2]; exact (Blk.new _ _ _).alloc _
  have KM : Hid (Blk w2 (w.heap.size + 1) #[c0, c1, c2, c3, c4, c5, c6, c7, .string s, c9, .slice At lt ct] 29) := by show Blk _ _ _ _; rw [hw2]; exact Blk.new' (by simp)
  have HB : Hid (Below w.heap.size w w2) := by show Below _ _ _; rw [hw2]; exact (((Below.refl _ _).alloc (Nat.le_refl _) _).alloc (by simp) _)
  have c8' : w2.cell? ⟨w.heap.size + 1, 8, none⟩ = some (.string s) := KM.out.cell 8
  have c10' : w2.cell? ⟨w.heap.size + 1, 10, none⟩ = some (.slice At lt ct) := KM.out.cell 10
  have HW := Lib.hid hw2
  have HZ := Lib.hid hz
  have HT := Lib.hid ht
  have H3 := Lib.hid h3
  have hf := few_spec h3
  have hlt2 : lt ≤ 1000 := by have := ht.1; omega
  have H1 : Hid (∀ W : World, Below w.heap.size w W → Calls Tryz.prog 6 #[.agg #[.int .i64 k, .int .i64 n], .slice Az lz cz, .string s, .slice At lt ct] W fun o w' => o = .returned (.tuple #[.string R, .int .i64 0]) ∧ Below W.heap.size W w') :=
    fun W hW => body_any (hz.below hW) (ht.below hW) (by omega) (by omega) hlt2 hf.2 hr
  clear hw2 hz ht h1 h2 h3 hr hf hback hused hover htr hg1 hg2 htt hlen1 hlen2 hsum hts hzl hl40 hmx h0 hcl hF
  go_enter Tryz.func3, Tryz.ntmps3
  go_wp2_with fail
  rw [← HW.out]
  go_quiet (fail)
  go_wp2_with fail
  have hd := (HB.out.trans (⟨rfl, rfl, rfl, Nat.le_refl _, fun _ _ => rfl⟩ : Below w.heap.size w2 (w2.drewN nq)))
  have HD := Lib.hid hd
  have KF1 : Hid (Blk (w2.drewN nq) w.heap.size #[.int .i64 k, .int .i64 n] 23) := KF.out.drewN nq
  clear hd
  refine (few_any (cap := ct) (HT.out.below HD.out) hlt).mono ?_
  rw [H3.out]
  rintro e' w3 ⟨rfl, hb⟩
  have HB3 := Lib.hid (HD.out.trans (hb.mono HD.out.size))
  have KF3 := Lib.hid (KF1.out.call hb)
  clear hb
  have f0 : w3.cell? ⟨w.heap.size, 0, none⟩ = some (.int .i64 k) := KF3.out.cell 0
  have f1 : w3.cell? ⟨w.heap.size, 1, none⟩ = some (.int .i64 n) := KF3.out.cell 1
  go_wp2_with fail
  refine (H1.out _ HB3.out).mono ?_
  rintro e' w4 ⟨rfl, hb⟩
  have HB4 := Lib.hid (HB3.out.trans (hb.mono HB3.out.size))
  have KF4 := Lib.hid (KF3.out.call hb)
  clear f0 f1 hb
  have f0 : w4.cell? ⟨w.heap.size, 0, none⟩ = some (.int .i64 k) := KF4.out.cell 0
  have f1 : w4.cell? ⟨w.heap.size, 1, none⟩ = some (.int .i64 n) := KF4.out.cell 1
  have H04 : Hid (0 < w4.heap.size) := Nat.lt_of_lt_of_le H0.out HB4.out.size
  go_upto_region 9 with (first
    | (go_at_call 7; refine (bnew_any ebM k n _).mono ?_; rintro e5 w5 ⟨D, V5, rfl, h5, b5⟩; have H5 := Lib.hid h5; have B5 := Lib.hid (HB4.out.trans (b5.mono HB4.out.size)); clear h5 b5)
    | (go_at_call 8; refine (bfeed_any H5.out HOK.out HO0.out H04.out (mx_below' HMX.out H0.out B5.out) R HTS.out).mono ?_; rw [← HF.out]; rintro e6 w6 ⟨vo6, V6, rfl, h6, o6, g6, v6, _, _⟩; have H6 := Lib.hid h6; have O6 := Lib.hid o6; have V6N := Lib.hid v6; have B6 := Lib.hid (B5.out.trans ((H5.out.below g6).mono HB4.out.size)); clear h6 o6 g6 v6))
  obtain ⟨p6, c6, hp6⟩ := pc_shape O6.out
  subst hp6
  go_upto_region 10 with (first
    | (go_at_call 9; refine (bclose_any H6.out (Nat.zero_le _)).mono ?_; rintro e7 w7 ⟨vo7, V7, rfl, h7, o7, g7, v7, n7⟩; have H7 := Lib.hid h7; have O7 := Lib.hid o7; have V7N := Lib.hid v7; have N7 := Lib.hid (fun e => (n7 (close_none e)).trans V6N.out); have O67 := Lib.hid (show OwnPc w7 w4.heap.size (.slice p6 F.1.out.length c6) F.1.out from own_touch O6.out g7.t (fun j hj => by obtain ⟨_, cs, hb⟩ := own_ty O6.out j hj; exact H6.out.farPc hb (by rw [V6N.out]; exact fun e => (by cases e)))); have B7 := Lib.hid (B6.out.trans ((H6.out.below g7).mono HB4.out.size)); clear h7 o7 g7 v7 n7)
    | (at_builtin; go_loud (refine wpList_push_pcs rfl _ _ rfl rfl O67.out rfl O7.out N7.out (by have := HL1.out; omega) (by have := HL2.out; omega) H7.out.size ?_; intro p8 c8 w8 o8 b8 t8; have O8 := Lib.hid o8; have H8 := Lib.hid (H7.out.pieces V7N.out t8 (fun j hj => by obtain ⟨_, cs, hb⟩ := own_ty O67.out j hj; exact ⟨cs, _, List.mem_cons_self, hb⟩)); have B8 := Lib.hid (B7.out.trans (b8.mono HB4.out.size)); clear o8 b8 t8)))
  have q1 : ((F.2 : Nat) : Int) = (R.size : Int) := by rw [HU.out]
  have q2 : (s.toList == s.toList) = true := by simp
  have q3 : ((R.size : Int) == (R.size : Int)) = true := by simp
  go_wp2_with (first
    | (go_at_call 10; refine (gather_any _ _ w8 (Pcs.of_own O8.out) (by rw [List.length_append]; have := HL1.out; have := HL2.out; omega) (by have := HTT.out; omega)).mono ?_; rw [HG1.out]; simp only [gtRow]; rintro e9 w9 ⟨vs, va, rfl, os, oa, b9⟩; obtain ⟨q4, d4, rfl⟩ := os.shape; obtain ⟨q5, d5, rfl⟩ := oa.shape; have OS := Lib.hid os; have OA := Lib.hid oa; have H9 := Lib.hid (H8.out.call b9); have B9 := Lib.hid (B8.out.trans (b9.mono B8.out.size)); have HSI := Lib.hid (fun (W : World) (hW : Below w9.heap.size w9 W) => sames (OwnI.nums (OS.out.call hW)) (nums_of (cap := cz) (HZ.out.below (B9.out.trans (hW.mono B9.out.size)))) (Nat.le_trans HZL.out (by decide))); clear os oa b9)
    | (go_at_call 11; refine (HSI.out _ ((Below.refl _ _).alloc (Nat.le_refl _) _)).mono ?_; rintro e11 w11 ⟨rfl, b11⟩; have k11 := (Blk.new w9 #[.string s, .slice q4 z.length d4, .slice q5 ga.length d5, .bool true, .int .i64 ge, .bool false] 44).call b11; have K11 := Lib.hid k11; have y3 : w11.cell? ⟨w9.heap.size, 3, none⟩ = some (.bool true) := k11.cell 3; have X11 := Lib.hid (((Below.refl w9.heap.size w9).alloc (Nat.le_refl _) (.cells #[.string s, .slice q4 z.length d4, .slice q5 ga.length d5, .bool true, .int .i64 ge, .bool false] 44)).trans (b11.mono (by simp))); have H11 := Lib.hid (H9.out.call X11.out); have B11 := Lib.hid (B9.out.trans (X11.out.mono B9.out.size)); clear b11 k11)
    | (go_at_call 13; refine (btrailers_any H11.out (Nat.le_trans HCL.out.tr (by decide))).mono ?_; rintro e12 w12 ⟨v12, rfl, o12, b12⟩; rw [if_pos (show (bTold (bClose (bTold F.1))).over = true from HO.out), show (bTold (bClose (bTold F.1))).tr = l from HTR.out] at o12; have O12 := Lib.hid o12; have K12 := Lib.hid (K11.out.call b12); have X12 := Lib.hid (X11.out.trans (b12.mono X11.out.size)); have B12 := Lib.hid (B11.out.trans (b12.mono B11.out.size)); clear o12 b12 y3)
    | (go_at_call 12; refine (samef (OwnF.flds O12.out) (flds_of' (HT.out.below B12.out)) HL40.out).mono ?_; rintro e13 w13 ⟨rfl, b13⟩; have k13 := K12.out.call b13; have y0 : w13.cell? ⟨w9.heap.size, 0, none⟩ = some (.string s) := k13.cell 0; have y1 : w13.cell? ⟨w9.heap.size, 1, none⟩ = some (.slice q4 z.length d4) := k13.cell 1; have y2 : w13.cell? ⟨w9.heap.size, 2, none⟩ = some (.slice q5 ga.length d5) := k13.cell 2; have y3 : w13.cell? ⟨w9.heap.size, 3, none⟩ = some (.bool true) := k13.cell 3; have y4 : w13.cell? ⟨w9.heap.size, 4, none⟩ = some (.int .i64 ge) := k13.cell 4; have y5 : w13.cell? ⟨w9.heap.size, 5, none⟩ = some (.bool false) := k13.cell 5; have X13 := Lib.hid (X12.out.trans (b13.mono X12.out.size)); have B13 := Lib.hid (B12.out.trans (b13.mono B12.out.size)); clear b13 k13)
    | (go_at_call 14; refine (gfits_any true HG2.out (OwnI.nums (OS.out.call X13.out)) (OwnI.nums (OA.out.call X13.out)) (Nat.le_trans HZL.out (by decide)) HSUM.out).mono ?_; rintro e14 w14 ⟨rfl, b14⟩; have B14 := Lib.hid (B13.out.trans (b14.mono B13.out.size)); clear b14)
    | (go_at_call 5; refine (lives25 _).mono ?_; rintro e15 w15 ⟨rfl, b15⟩; have B15 := Lib.hid (B14.out.trans (b15.mono B14.out.size)); clear b15))
  go_ret
  exact ⟨rfl, B15.out⟩
theorem encodeBack_any {w : World} {Az At : Option Addr} {lz cz lt ct : Nat} {k n : Int} {z : List Int} {s : ByteArray} {l : List Fld} {c0 c1 c2 c3 c4 c5 c6 c7 c9 : Value} (hz : Ints w Az lz z) (ht : Fds w At lt l) (hlt : lt ≤ 9223372036854775807) (hn2 : n ≤ 9223372036854775807) {mx : Int} (hmx : w.cell? ⟨0, 0, none⟩ = some (.int .i64 mx)) : Calls Tryz.prog 3 #[.agg #[.int .i64 k, .int .i64 n], .slice Az lz cz, .agg #[c0, c1, c2, c3, c4, c5, c6, c7, .string s, c9, .slice At lt ct]] w fun e w' => e = .returned (.bool true) ∧ Below w.heap.size w w' := by
  by_cases h1 : s.size ≤ 2000
  · by_cases h2 : lz ≤ 300
    · cases h3 : fewF l with
      | false => exact eb_c hz ht hlt h1 h2 h3
      | true =>
        obtain ⟨R, e, hr⟩ : ∃ R e, bodyRes k n z s l = (R, e) := ⟨_, _, rfl⟩
        by_cases he : e = 0
        · subst he
          exact eb_e hz ht hlt hn2 h1 h2 h3 hmx hr
        · exact eb_d hz ht hlt h1 h2 h3 hr he
    · exact eb_b hz ht h1 (by omega)
  · exact eb_a hz ht (by omega)
end Go.Proofs.YtbglakhojbhfbaaGreatDoor

