/- Texts packed for one claim, 36 of 52: HdB HRight HdF HeadPrints HBackP. -/
import Derived.Test.YtaojfiegnebbdaaGreatDoorMbkQ29
import Derived.Test.YtaojfiegnebbdaaGreatDoorMbkQ30
import Derived.Test.YtaojfiegnebbdaaGreatDoorMbkQ33
import Derived.Test.YtaojfiegnebbdaaGreatDoorMbkQ35
import Derived.Test.YtaojfiegnebbdaaGreatDoorMbkQ31
set_option maxRecDepth 100000
set_option maxHeartbeats 16000000
-- HdB
-- HRight
set_option linter.unusedSimpArgs false
set_option linter.unusedVariables false
namespace Go.Proofs.YtaojfiegnebbdaaGreatDoor
open Go.RowKit
theorem wrong_any (n v : ByteArray) (hn : n.size ≤ 9223372036854775807) (hv : v.size ≤ 9223372036854775807) (w : World) : Calls Tryz.prog 65 #[.agg #[.string n, .string v]] w fun e w' => e = .returned (.bool (!fieldR n v)) ∧ Below w.heap.size w w' := by
 have HR := lH (fun (W : World) => fright_any n v hn hv W)
 obtain ⟨b, hb⟩ : ∃ b, b = fieldR n v := ⟨_, rfl⟩
 rw [← hb] at HR ⊢
 clear hb
 go_enter Tryz.func65, Tryz.ntmps65
 go_wp2_with (go_at_call 66; refine (HR.out _).mono ?_; rintro e1 w1 ⟨rfl, hb1⟩; have HB1 := lH (below_one hb1); clear hb1)
 go_ret
 exact ⟨rfl, HB1.out⟩
def allR (l : List Fd) : Bool := l.all fun f => fieldR f.1 f.2
theorem index_wrong (v : Value) (l : List Fd) (w : World) (h : Flds w v l) (hl : l.length ≤ 1000000) (hs : ∀ g ∈ l, g.1.size ≤ 1000000 ∧ g.2.size ≤ 1000000) :
 Calls Tryz.prog 110 #[v, .func (.func 65) #[] #[]] w fun e w' => ∃ z : Int, e = .returned (.int .i64 z) ∧ decide (0 ≤ z) = !allR l ∧ Below w.heap.size w w' := by
 obtain ⟨p, c, rfl, hc⟩ := h
 have HC := lH hc
 have HS := lH hs
 clear hc hs
 go_enter Tryz.func110, Tryz.ntmps110
 go_wp2_with fail
 go_loopw [8] (fun u8 wr => ∃ k : Nat, k ≤ l.length ∧ u8 = .int .i64 k ∧ (∀ j (hj : j < l.length), j < k → fieldR l[j].1 l[j].2 = true) ∧ Below w.heap.size w wr) (fun u8 _ => l.length - (intOf u8).toNat)
 case atStart => exact ⟨0, Nat.zero_le _, rfl, fun j _ hj => absurd hj (Nat.not_lt_zero _), Below.refl _ _⟩
 case round =>
  obtain ⟨k, hk, rfl, hpre, hbel⟩ := hrel
  have HP := lH hpre
  have HB := lH hbel
  clear hpre hbel
  by_cases hlt : k < l.length
  ·have hk1 : decide ((k : Int) < (l.length : Int)) = true := dT (by omega)
   obtain ⟨b, off, hp, c0, c1⟩ := HC.out k hlt
   subst hp
   obtain ⟨g, hg⟩ : ∃ g, g = l[k] := ⟨_, rfl⟩
   rw [← hg] at c0 c1
   have hgs := HS.out g (by rw [hg]; exact List.getElem_mem hlt)
   obtain ⟨n, v⟩ := g
   have e0 := (bcell HB.out b _ (World.block_lt_of_cell? _ _ c0)).trans c0
   have e1 := (bcell HB.out b _ (World.block_lt_of_cell? _ _ c1)).trans c1
   have HW := lH (fun (W : World) => wrong_any n v (by simp only at hgs; omega) (by simp only at hgs; omega) W)
   obtain ⟨F, hF⟩ : ∃ F, F = fieldR n v := ⟨_, rfl⟩
   rw [← hF] at HW
   have HG := lH hg
   have HF := lH hF
   have hoff : off + k * 2 = off + 2 * k := by omega
   have hoff1 : off + k * 2 + 1 = off + 2 * k + 1 := by omega
   rw [← hoff] at e0
   rw [← hoff1] at e1
   clear hg hF hgs c0 c1 hoff hoff1
   simp only at e0 e1
   cases F with
   | true =>
     go_wp2_with (go_at_call 65; refine (HW.out _).mono ?_; rintro e2 w2 ⟨rfl, hb2⟩; have HB2 := lH (HB.out.trans (hb2.mono HB.out.size)); clear hb2)
     go_roundw
     case rel =>
      refine ⟨k + 1, hlt, by go_num, fun j hj hjk => ?_, HB2.out⟩
      by_cases e : j = k
      ·subst e
       rw [← HG.out]
       exact HF.out.symm
      ·exact HP.out j hj (by omega)
     case measure => simp [intOf]; omega
   | false =>
     go_wp2_with (go_at_call 65; refine (HW.out _).mono ?_; rintro e2 w2 ⟨rfl, hb2⟩; have HB2 := lH (HB.out.trans (hb2.mono HB.out.size)); clear hb2)
     go_ret
     refine ⟨(k : Int), rfl, ?_, HB2.out⟩
     have hA : allR l = false := by
      unfold allR
      rw [List.all_eq_false]
      refine ⟨l[k], List.getElem_mem hlt, ?_⟩
      rw [← HG.out, ← HF.out]
      decide
     rw [hA, dT (by omega)]
     rfl
  ·have hk1 : decide ((k : Int) < (l.length : Int)) = false := dF (by omega)
   go_wp2_with fail
   go_ret
   refine ⟨-1, rfl, ?_, HB.out⟩
   have hA : allR l = true := by
    unfold allR
    rw [List.all_eq_true]
    intro x hx
    obtain ⟨j, hj, rfl⟩ := List.getElem_of_mem hx
    exact HP.out j hj (by omega)
   rw [hA]
   rfl
theorem contains_wrong (v : Value) (l : List Fd) (w : World) (h : Flds w v l) (hl : l.length ≤ 1000000) (hs : ∀ g ∈ l, g.1.size ≤ 1000000 ∧ g.2.size ≤ 1000000) :
 Calls Tryz.prog 69 #[v, .func (.func 65) #[] #[]] w fun e w' => e = .returned (.bool (!allR l)) ∧ Below w.heap.size w w' := by
 have HI := lH (index_wrong v l w h hl hs)
 obtain ⟨A, hA⟩ : ∃ A, A = !allR l := ⟨_, rfl⟩
 rw [← hA] at HI ⊢
 clear hA h hl hs
 go_enter Tryz.func69, Tryz.ntmps69
 go_wp2_with (go_at_call 110; refine HI.out.mono ?_; rintro e1 w1 ⟨z, rfl, hz, hb1⟩; have HZ := lH hz; have HB1 := lH hb1; clear hz hb1)
 go_ret
 refine ⟨?_, HB1.out⟩
 rw [← HZ.out]
 rfl
def reqR (m t : ByteArray) (n : Int) (r : ByteArray) : Bool := tokL m.data.toList && (visL t.data.toList && (n == 0 && r.toList.isEmpty))
def rspR (m t : ByteArray) (n : Int) (r : ByteArray) : Bool := m.toList.isEmpty && (t.toList.isEmpty && (decide (100 ≤ n) && (decide (n ≤ 599) && valL r.data.toList)))
theorem request_is (m t r : ByteArray) (k n : Int) (f : Value) (hm : m.size ≤ 1000000) (ht : t.size ≤ 1000000) (hr : r.size ≤ 1000000) (w : World) :
 Calls Tryz.prog 67 #[.agg #[.string m, .string t, .int .i64 k, .int .i64 n, .string r, f]] w fun e w' => e = .returned (.bool (reqR m t n r)) ∧ Below w.heap.size w w' := by
 have H1 := lH (fun (W : World) => token_any m (by omega) W)
 have H2 := lH (fun (W : World) => visible_any t (by omega) W)
 have KR := lH (Blk.new w #[.string m, .string t, .int .i64 k, .int .i64 n, .string r, f] 34)
 obtain ⟨p1, h1⟩ : ∃ p, p = tokL m.data.toList := ⟨_, rfl⟩
 obtain ⟨p2, h2⟩ : ∃ p, p = visL t.data.toList := ⟨_, rfl⟩
 have HR : Hid (reqR m t n r = (p1 && (p2 && (n == 0 && r.toList.isEmpty)))) := by show _ = _; unfold reqR; rw [h1, h2]
 rw [← h1] at H1
 rw [← h2] at H2
 clear h1 h2 hm ht hr
 cases p1 with
 | false =>
   go_enter Tryz.func67, Tryz.ntmps67
   go_wp2_with (go_at_call 106; refine (H1.out _).mono ?_; rintro e1 w1 ⟨rfl, hb1⟩; have HB1 := lH (below_one hb1); clear hb1)
   go_ret
   exact ⟨by rw [HR.out]; rfl, HB1.out⟩
 | true =>
   cases p2 with
   | false =>
     go_enter Tryz.func67, Tryz.ntmps67
     go_wp2_with (first | (go_at_call 106; refine (H1.out _).mono ?_; rintro e1 w1 ⟨rfl, hb1⟩; have HB1 := lH (below_one hb1); have K1 := lH (KR.out.call hb1); obtain ⟨x1, x3, x4⟩ := bc3 K1.out 1 3 4; simp at x1 x3 x4; clear hb1) | (go_at_call 109; refine (H2.out _).mono ?_; rintro e2 w2 ⟨rfl, hb2⟩; have HB2 := lH (HB1.out.trans (hb2.mono HB1.out.size)); clear hb2))
     go_ret
     exact ⟨by rw [HR.out]; rfl, HB2.out⟩
   | true =>
     cases h3 : (n == 0)
     all_goals
      cases h4 : r.toList.isEmpty
      all_goals
       go_enter Tryz.func67, Tryz.ntmps67
       go_wp2_with (first | (go_at_call 106; refine (H1.out _).mono ?_; rintro e1 w1 ⟨rfl, hb1⟩; have HB1 := lH (below_one hb1); have K1 := lH (KR.out.call hb1); have x1 := K1.out.cell 1; simp at x1; clear hb1) | (go_at_call 109; refine (H2.out _).mono ?_; rintro e2 w2 ⟨rfl, hb2⟩; have HB2 := lH (HB1.out.trans (hb2.mono HB1.out.size)); have K2 := lH (K1.out.call hb2); obtain ⟨y3, y4⟩ := bc2 K2.out 3 4; simp at y3 y4; clear hb2))
       go_ret
       exact ⟨by rw [HR.out, h3, h4]; rfl, HB2.out⟩
theorem response_is (m t r : ByteArray) (k n : Int) (f : Value) (hm : m.size ≤ 1000000) (ht : t.size ≤ 1000000) (hr : r.size ≤ 1000000) (w : World) :
 Calls Tryz.prog 68 #[.agg #[.string m, .string t, .int .i64 k, .int .i64 n, .string r, f]] w fun e w' => e = .returned (.bool (rspR m t n r)) ∧ Below w.heap.size w w' := by
 have H1 := lH (fun (W : World) => value_any r (by omega) W)
 have HB0 := lH ((Below.refl w.heap.size w).alloc (nR _) (.cells #[.string m, .string t, .int .i64 k, .int .i64 n, .string r, f] 34))
 obtain ⟨p5, h5⟩ : ∃ p, p = valL r.data.toList := ⟨_, rfl⟩
 have HR : Hid (rspR m t n r = (m.toList.isEmpty && (t.toList.isEmpty && (decide (100 ≤ n) && (decide (n ≤ 599) && p5))))) := by show _ = _; unfold rspR; rw [h5]
 rw [← h5] at H1
 clear h5 hm ht hr
 have hc : m.toList.isEmpty = false ∨ (m.toList.isEmpty = true ∧ (t.toList.isEmpty = false ∨ (t.toList.isEmpty = true ∧ (decide (100 ≤ n) = false ∨ (decide (100 ≤ n) = true ∧ (decide (n ≤ 599) = false ∨ decide (n ≤ 599) = true)))))) := by
  cases m.toList.isEmpty <;> cases t.toList.isEmpty <;> cases decide (100 ≤ n) <;> cases decide (n ≤ 599) <;> simp
 rcases hc with e1 | ⟨e1, e2 | ⟨e2, e3 | ⟨e3, e4 | e4⟩⟩⟩
 all_goals
  go_enter Tryz.func68, Tryz.ntmps68
  go_wp2_with (go_at_call 107; refine (H1.out _).mono ?_; rintro x1 w1 ⟨rfl, hb1⟩; have HB1 := lH (below_one hb1); clear hb1)
  go_ret
  first
   | exact ⟨by rw [HR.out, e1]; rfl, HB0.out⟩
   | exact ⟨by rw [HR.out, e1, e2]; rfl, HB0.out⟩
   | exact ⟨by rw [HR.out, e1, e2, e3]; rfl, HB0.out⟩
   | exact ⟨by rw [HR.out, e1, e2, e3, e4]; rfl, HB0.out⟩
   | exact ⟨by rw [HR.out, e1, e2, e3, e4]; rfl, HB1.out⟩
def rightP (m t : ByteArray) (k n : Int) (r : ByteArray) (l : List Fd) : Bool := (reqR m t n r || rspR m t n r) && ((k == 0 || k == 1) && allR l)
theorem hright_any (m t r : ByteArray) (k n : Int) (f : Value) (l : List Fd) (hm : m.size ≤ 1000000) (ht : t.size ≤ 1000000) (hr : r.size ≤ 1000000) (w : World) (h : Flds w f l) (hl : l.length ≤ 1000000) (hs : ∀ g ∈ l, g.1.size ≤ 1000000 ∧ g.2.size ≤ 1000000) :
 Calls Tryz.prog 39 #[.agg #[.string m, .string t, .int .i64 k, .int .i64 n, .string r, f]] w fun e w' => e = .returned (.bool (rightP m t k n r l)) ∧ Below w.heap.size w w' := by
 have H1 := lH (fun (W : World) => request_is m t r k n f hm ht hr W)
 have H2 := lH (fun (W : World) => response_is m t r k n f hm ht hr W)
 have H3 := lH (fun (W : World) (hW : Below w.heap.size w W) => contains_wrong f l W (h.below hW) hl hs)
 have KR := lH (Blk.new w #[.string m, .string t, .int .i64 k, .int .i64 n, .string r, f] 34)
 obtain ⟨p1, h1⟩ : ∃ p, p = reqR m t n r := ⟨_, rfl⟩
 obtain ⟨p2, h2⟩ : ∃ p, p = rspR m t n r := ⟨_, rfl⟩
 obtain ⟨p5, h5⟩ : ∃ p, p = allR l := ⟨_, rfl⟩
 have HR : Hid (rightP m t k n r l = ((p1 || p2) && ((k == 0 || k == 1) && p5))) := by show _ = _; unfold rightP; rw [h1, h2, h5]
 rw [← h1] at H1
 rw [← h2] at H2
 rw [← h5] at H3
 clear h1 h2 h5 hm ht hr h hl hs
 have hc : ((k == 0) = true) ∨ ((k == 0) = false ∧ (k == 1) = true) ∨ ((k == 0) = false ∧ (k == 1) = false) := by cases (k == 0) <;> cases (k == 1) <;> simp
 cases p1 <;> cases p2
 all_goals
  rcases hc with e1 | ⟨e1, e2⟩ | ⟨e1, e2⟩
  all_goals
   go_enter Tryz.func39, Tryz.ntmps39
   go_wp2_with (first
    | (go_at_call 67; refine (H1.out _).mono ?_; rintro x1 w1 ⟨rfl, hb1⟩; have HB := lH (below_one hb1); have K1 := lH (KR.out.call hb1); obtain ⟨x0, x1, x2, x3, x4, x5⟩ := bc6 K1.out 0 1 2 3 4 5; simp at x0 x1 x2 x3 x4 x5; clear hb1)
    | (go_at_call 68; refine (H2.out _).mono ?_; rintro x2 w2 ⟨rfl, hb2⟩; have HB := lH (HB.out.trans (hb2.mono HB.out.size)); have K2 := lH (K1.out.call hb2); clear x0 x1 x2 x3 x4 x5; obtain ⟨y0, y1, y2, y3, y4, y5⟩ := bc6 K2.out 0 1 2 3 4 5; simp at y0 y1 y2 y3 y4 y5; clear hb2)
    | (go_at_call 69; refine (H3.out _ HB.out).mono ?_; rintro x3 w3 ⟨rfl, hb3⟩; have HB := lH (HB.out.trans (hb3.mono HB.out.size)); clear hb3))
   go_ret
   refine ⟨?_, HB.out⟩
   rw [HR.out]
   cases p5 <;> simp_all
end Go.Proofs.YtaojfiegnebbdaaGreatDoor
-- HdF
-- HeadPrints
set_option linter.unusedSimpArgs false
set_option linter.unusedVariables false
namespace Go.Proofs.YtaojfiegnebbdaaGreatDoor
open Go.RowKit
theorem flds_of {w : World} {A : Option Addr} {len cap : Nat} {l : List Fd} (h : Fds w A len l) : Flds w (.slice A len cap) l := by
 refine ⟨A, cap, by rw [h.1], fun i hi => ?_⟩
 obtain ⟨b, off, e, _, hc⟩ := h.2 (by have := h.1; omega)
 obtain ⟨c0, c1⟩ := hc i l[i] (List.getElem?_eq_getElem hi)
 exact ⟨b, off, e, by rw [Nat.mul_comm 2 i]; exact c0, by rw [Nat.mul_comm 2 i]; exact c1⟩
def shortP (m t r : ByteArray) (l : List Fd) : Bool := fewF l && (decide (m.size ≤ 100) && (decide (t.size ≤ 500) && decide (r.size ≤ 300)))
theorem shortP_ok {m t r : ByteArray} {l : List Fd} (h : shortP m t r l = true) : l.length ≤ 40 ∧ (∀ g ∈ l, g.1.size ≤ 1000 ∧ g.2.size ≤ 1000) ∧ m.size ≤ 1000 ∧ t.size ≤ 1000 ∧ r.size ≤ 1000 := by
 unfold shortP fewF at h
 simp only [Bool.and_eq_true, decide_eq_true_eq, List.all_eq_true] at h
 obtain ⟨⟨h1, h2⟩, h3, h4, h5⟩ := h
 refine ⟨h1, fun g hg => ?_, by omega, by omega, by omega⟩
 have := h2 g hg
 omega
theorem short_any {w : World} {A : Option Addr} {len cap : Nat} {l : List Fd} (m t r : ByteArray) (k n : Int) (h : Fds w A len l) (hl : len ≤ 9223372036854775807) :
 Calls Tryz.prog 37 #[.agg #[.string m, .string t, .int .i64 k, .int .i64 n, .string r, .slice A len cap]] w fun e w' => e = .returned (.bool (shortP m t r l)) ∧ Below w.heap.size w w' := by
 have hb0 : Below w.heap.size w (w.alloc (.cells #[.string m, .string t, .int .i64 k, .int .i64 n, .string r, .slice A len cap] 34)) := (Below.refl _ _).alloc (nR _) _
 have HF := lH (few_any (cap := cap) (h.below hb0) hl)
 have KR := lH (Blk.new w #[.string m, .string t, .int .i64 k, .int .i64 n, .string r, .slice A len cap] 34)
 obtain ⟨p1, h1⟩ : ∃ p, p = fewF l := ⟨_, rfl⟩
 have HR : Hid (shortP m t r l = (p1 && (decide (m.size ≤ 100) && (decide (t.size ≤ 500) && decide (r.size ≤ 300))))) := by show _ = _; unfold shortP; rw [h1]
 rw [← h1] at HF
 clear h h1 hl hb0
 have dm : decide ((m.size : Int) ≤ 100) = decide (m.size ≤ 100) := decide_eq_decide.2 (by omega)
 have dt : decide ((t.size : Int) ≤ 500) = decide (t.size ≤ 500) := decide_eq_decide.2 (by omega)
 have dr : decide ((r.size : Int) ≤ 300) = decide (r.size ≤ 300) := decide_eq_decide.2 (by omega)
 have HD := lH (And.intro dm (And.intro dt dr))
 clear dm dt dr
 cases p1
 ·go_enter Tryz.func37, Tryz.ntmps37
  go_wp2_with (go_at_call 38; refine HF.out.mono ?_; rintro e1 w1 ⟨rfl, hb1⟩; have HB1 := lH (below_one hb1); clear hb1)
  go_ret
  exact ⟨by rw [HR.out]; rfl, HB1.out⟩
 ·by_cases hm : m.size ≤ 100 <;> by_cases ht : t.size ≤ 500 <;> by_cases hr : r.size ≤ 300
  all_goals
   first | (have dm : decide ((m.size : Int) ≤ 100) = true := dT (by omega)) | (have dm : decide ((m.size : Int) ≤ 100) = false := dF (by omega))
   first | (have dt : decide ((t.size : Int) ≤ 500) = true := dT (by omega)) | (have dt : decide ((t.size : Int) ≤ 500) = false := dF (by omega))
   first | (have dr : decide ((r.size : Int) ≤ 300) = true := dT (by omega)) | (have dr : decide ((r.size : Int) ≤ 300) = false := dF (by omega))
   go_enter Tryz.func37, Tryz.ntmps37
   go_wp2_with (go_at_call 38; refine HF.out.mono ?_; rintro e1 w1 ⟨rfl, hb1⟩; have HB1 := lH (below_one hb1); have K1 := lH (KR.out.call hb1); obtain ⟨x0, x1, x4⟩ := bc3 K1.out 0 1 4; simp at x0 x1 x4; clear hb1)
   go_ret
   refine ⟨?_, HB1.out⟩
   rw [HR.out]
   simp [hm, ht, hr]
end Go.Proofs.YtaojfiegnebbdaaGreatDoor
-- HBackP
set_option linter.unusedSimpArgs false
set_option linter.unusedVariables false
namespace Go.Proofs.YtaojfiegnebbdaaGreatDoor
open Go.RowKit
theorem hb_posL (c : UInt8) : ∀ (l : List UInt8) (o : Nat), (∀ b ∈ l, b ≠ c) → posL c o l = []
 | [], _, _ => rfl
 | b :: l, o, h => by rw [posL_cons_ne (h b (by simp)), hb_posL c l (o + 1) (fun x hx => h x (by simp [hx]))]
theorem hb_tok {l : List UInt8} (h : tokL l = true) {c : UInt8} (hc : tcharB c.toNat = false) : ∀ b ∈ l, b ≠ c := by
 intro b hb e
 unfold tokL at h
 rw [Bool.and_eq_true, List.all_eq_true] at h
 have := h.2 b hb
 rw [e, hc] at this
 cases this
theorem hb_vis {l : List UInt8} (h : visL l = true) {c : UInt8} (hc : visB c.toNat = false) : ∀ b ∈ l, b ≠ c := by
 intro b hb e
 unfold visL at h
 rw [Bool.and_eq_true, List.all_eq_true] at h
 have := h.2 b hb
 rw [e, hc] at this
 cases this
theorem hb_val {l : List UInt8} (h : valL l = true) {c : UInt8} (hc : valueB c.toNat = false) : ∀ b ∈ l, b ≠ c := by
 intro b hb e
 unfold valL at h
 rw [List.all_eq_true] at h
 have := h b hb
 rw [e, hc] at this
 cases this
theorem hb_ver {k : Int} (h : k = 0 ∨ k = 1) : vminor (verB k) = (k, 0) ∧ vform (verB k) = true := by
 rcases h with rfl | rfl
 ·exact ⟨by decide +kernel, by decide +kernel⟩
 ·exact ⟨by decide +kernel, by decide +kernel⟩
theorem hb_data {m t r : ByteArray} {k n : Int} (h : m.size ≠ 0) : (lineB m t k n r).data.toList = m.data.toList ++ ([32] ++ (t.data.toList ++ ([32] ++ (verB k).data.toList))) := by
 unfold lineB
 rw [if_neg h]
 simp [sp1]
theorem hb_data' {m t r : ByteArray} {k n : Int} (h : m.size = 0) : (lineB m t k n r).data.toList = (verB k).data.toList ++ ([32] ++ ((padB n 3).data.toList ++ ([32] ++ r.data.toList))) := by
 unfold lineB
 rw [if_pos h]
 simp [sp1]
theorem hb_sz (b : ByteArray) : b.data.toList.length = b.size := by simp
theorem hb_lsize {m t r : ByteArray} {k n : Int} (h : m.size ≠ 0) : (lineB m t k n r).size = m.size + t.size + 10 := by
 rw [← hb_sz, hb_data h]
 have := verB_size k
 rw [← hb_sz] at this
 simp only [List.length_append, this, hb_sz, List.length_cons, List.length_nil]
 omega
theorem hb_tok_ne {M : ByteArray} (h : tokL M.data.toList = true) : M.size ≠ 0 := by
 intro h0
 unfold tokL at h
 rw [Bool.and_eq_true] at h
 have : M.data.toList = [] := List.eq_nil_of_length_eq_zero (by rw [hb_sz]; exact h0)
 rw [this] at h
 exact absurd h.1 (by decide)
theorem hb_req_of {M T : ByteArray} {k : Int} (ht : tokL M.data.toList = true) (hv : visL T.data.toList = true) (hk : k = 0 ∨ k = 1) : reqRes (lineB M T k 0 ⟨#[]⟩) = ((M, T, k), 0) := by
 have hm0 := hb_tok_ne ht
 have hL := hb_data (m := M) (t := T) (k := k) (n := 0) (r := ⟨#[]⟩) hm0
 have hLs := hb_lsize (m := M) (t := T) (k := k) (n := 0) (r := ⟨#[]⟩) hm0
 obtain ⟨L, hLe⟩ : ∃ L, L = lineB M T k 0 ⟨#[]⟩ := ⟨_, rfl⟩
 rw [← hLe] at hL hLs ⊢
 have hmv := hb_ver hk
 have hver : ∀ b ∈ (verB k).data.toList, b ≠ 32 := by
  rcases hk with rfl | rfl <;> decide
 have hpos : posL 32 0 L.data.toList = [M.size, M.size + 1 + T.size] := by
  rw [hL, posL_append, hb_posL 32 _ _ (hb_tok ht (by decide)), hb_sz, List.nil_append, Nat.zero_add, List.singleton_append, posL_cons_eq, posL_append, hb_posL 32 _ _ (hb_vis hv (by decide)), hb_sz, List.nil_append, List.singleton_append, posL_cons_eq, hb_posL 32 _ _ hver]
 have e1 : L.extract 0 M.size = M := ext_list (by
  rw [Lib.extract_data, hL, List.drop_zero, Nat.sub_zero, ← hb_sz M, List.take_left'] <;> rfl)
 have e2 : L.extract (M.size + 1) (M.size + 1 + T.size) = T := ext_list (by
  rw [Lib.extract_data, hL, ← List.append_assoc, List.drop_left' (by simp), Nat.add_sub_cancel_left, ← hb_sz T, List.take_left'] <;> rfl)
 have e3 : L.extract (M.size + 1 + T.size + 1) L.size = verB k := ext_list (by
  rw [Lib.extract_data, hL, ← List.append_assoc, ← List.append_assoc, ← List.append_assoc, List.drop_left' (by simp; omega)]
  apply List.take_of_length_le
  rw [hb_sz, verB_size]; omega)
 rw [reqRes_two hpos, e1, e2, e3, ht, hv, hmv.1]
 rfl
theorem hb_fig {n : Int} (h1 : 100 ≤ n) (h2 : n ≤ 599) : figL 10 n.natAbs = [figD (n.natAbs / 100), figD (n.natAbs / 10 % 10), figD (n.natAbs % 10)] := by
 rw [figL_high (by decide) (by omega), figL_high (b := 10) (n := n.natAbs / 10) (by decide) (by omega), figL_low (by omega), Nat.div_div_eq_div_mul]
 rfl
theorem hb_dig (d : Nat) (h : d < 10) : digV (figD d).toNat = d ∧ 48 ≤ ((figD d).toNat : Int) ∧ ((figD d).toNat : Int) ≤ 57 := by
 have : ∀ d, d < 10 → digV (figD d).toNat = d ∧ 48 ≤ ((figD d).toNat : Int) ∧ ((figD d).toNat : Int) ≤ 57 := by decide
 exact this d h
theorem hb_pad {n : Int} (h1 : 100 ≤ n) (h2 : n ≤ 599) : (padB n 3).data.toList = [figD (n.natAbs / 100), figD (n.natAbs / 10 % 10), figD (n.natAbs % 10)] := by
 unfold padB
 have ht : textB n = ⟨(figL 10 n.natAbs).toArray⟩ := by unfold textB; rw [if_neg (by omega)]
 have hz : (textB n).size = 3 := by rw [ht, hb_fig h1 h2]; rfl
 rw [if_neg (by omega), hz, show ((min (3 : Int) 20) - ((3 : Nat) : Int)).toNat = 0 from by decide, zerosB_zero, ht, hb_fig h1 h2]
theorem hb_stat_of {R : ByteArray} {k a : Int} (hk : k = 0 ∨ k = 1) (hr1 : 100 ≤ a) (hr2 : a ≤ 599) (hv : valL R.data.toList = true) : statRes (lineB ⟨#[]⟩ ⟨#[]⟩ k a R) = ((k, a, R), 0) := by
 have hmv := hb_ver hk
 obtain ⟨L, hLe⟩ : ∃ L, L = lineB ⟨#[]⟩ ⟨#[]⟩ k a R := ⟨_, rfl⟩
 have hL := hb_data' (m := ⟨#[]⟩) (t := ⟨#[]⟩) (k := k) (n := a) (r := R) rfl
 rw [← hLe, hb_pad hr1 hr2] at hL
 have hVl : (verB k).data.toList.length = 8 := by rw [hb_sz, verB_size]
 have hLs : L.size = 13 + R.size := by
  rw [← hb_sz, hL]
  simp only [List.length_append, hVl, hb_sz, List.length_cons, List.length_nil]
  omega
 rw [← hLe]
 have g : ∀ i c, (L.data.toList)[i]? = some c → bt L i = (c.toNat : Int) := fun i c hi => by
  have hlt : i < L.size := by
   rcases Nat.lt_or_ge i L.size with h | h
   ·exact h
   ·rw [List.getElem?_eq_none (by rw [hb_sz]; exact h)] at hi; cases hi
  rw [bt_get L i hlt]
  rw [List.getElem?_eq_getElem (by rw [hb_sz]; exact hlt)] at hi
  have := Option.some.inj hi
  exact congrArg (fun b : UInt8 => (b.toNat : Int)) this
 have gi : ∀ i, 8 ≤ i → L.data.toList[i]? = ([32] ++ ([figD (a.natAbs / 100), figD (a.natAbs / 10 % 10), figD (a.natAbs % 10)] ++ ([32] ++ R.data.toList)))[i - 8]? := fun i hi => by
  rw [hL, List.getElem?_append_right (by omega), hVl]
 have b8 : bt L 8 = 32 := g 8 32 (by rw [gi 8 (by omega)]; rfl)
 have b9 : bt L 9 = ((figD (a.natAbs / 100)).toNat : Int) := g 9 _ (by rw [gi 9 (by omega)]; rfl)
 have b10 : bt L 10 = ((figD (a.natAbs / 10 % 10)).toNat : Int) := g 10 _ (by rw [gi 10 (by omega)]; rfl)
 have b11 : bt L 11 = ((figD (a.natAbs % 10)).toNat : Int) := g 11 _ (by rw [gi 11 (by omega)]; rfl)
 have b12 : bt L 12 = 32 := g 12 32 (by rw [gi 12 (by omega)]; rfl)
 have x1 := hb_dig (a.natAbs / 100) (by omega)
 have x2 := hb_dig (a.natAbs / 10 % 10) (by omega)
 have x3 := hb_dig (a.natAbs % 10) (by omega)
 have e8 : hd8 L = verB k := ext_list (by
  unfold hd8
  rw [Lib.extract_data, hL, List.drop_zero, List.take_left' (by omega)])
 have em : (mid3 L).data.toList = [figD (a.natAbs / 100), figD (a.natAbs / 10 % 10), figD (a.natAbs % 10)] := by
  unfold mid3
  rw [Lib.extract_data, hL, ← List.append_assoc, List.drop_left' (by rw [List.length_append, hVl]; rfl)]
  rfl
 have er : rest13 L = R := ext_list (by
  unfold rest13
  rw [Lib.extract_data, hL, Nat.min_eq_left (by omega), ← List.append_assoc, ← List.append_assoc, ← List.append_assoc, List.drop_left' (by simp only [List.length_append, hVl]; rfl), List.take_of_length_le (by rw [hb_sz]; omega)])
 have hn : numV 10 (mid3 L).data.toList = a := by
  rw [em]
  simp only [numV, List.foldl_cons, List.foldl_nil, x1.1, x2.1, x3.1]
  omega
 have hform : statForm L = true := by
  unfold statForm
  rw [dT (by omega), dT b8, dT b12, e8, hmv.2, b9, b10, b11]
  unfold isDg
  rw [dT x1.2, dT x2.2, dT x3.2]
  simp
 have hmm : vminor (hd8 L) = (k, 0) := by rw [e8]; exact hmv.1
 rw [statRes_ok hform hmm hn hr1 hr2 (by rw [er]; exact hv), er]
def noB (l : List UInt8) : Prop := ∀ b ∈ l, b ≠ 10 ∧ b ≠ 13
theorem noB_app {a b : List UInt8} (ha : noB a) (hb : noB b) : noB (a ++ b) := fun x hx => (List.mem_append.1 hx).elim (ha x) (hb x)
theorem noB_tok {l : List UInt8} (h : tokL l = true) : noB l := fun b hb => ⟨hb_tok h (by decide) b hb, hb_tok h (by decide) b hb⟩
theorem noB_vis {l : List UInt8} (h : visL l = true) : noB l := fun b hb => ⟨hb_vis h (by decide) b hb, hb_vis h (by decide) b hb⟩
theorem noB_val {l : List UInt8} (h : valL l = true) : noB l := fun b hb => ⟨hb_val h (by decide) b hb, hb_val h (by decide) b hb⟩
theorem noB_ver {k : Int} (h : k = 0 ∨ k = 1) : noB (verB k).data.toList := by
 rcases h with rfl | rfl
 ·show ∀ b ∈ (verB 0).data.toList, b ≠ 10 ∧ b ≠ 13
  decide
 ·show ∀ b ∈ (verB 1).data.toList, b ≠ 10 ∧ b ≠ 13
  decide
theorem noB_fig {d : Nat} (h : d < 10) : figD d ≠ 10 ∧ figD d ≠ 13 := by
 have := (hb_dig d h).2.1
 refine ⟨fun e => ?_, fun e => ?_⟩
 ·rw [e] at this; exact absurd this (by decide)
 ·rw [e] at this; exact absurd this (by decide)
theorem noB_pad {n : Int} (h1 : 100 ≤ n) (h2 : n ≤ 599) : noB (padB n 3).data.toList := by
 rw [hb_pad h1 h2]
 intro b hb
 simp only [List.mem_cons, List.not_mem_nil, or_false] at hb
 rcases hb with rfl | rfl | rfl
 ·exact noB_fig (by omega)
 ·exact noB_fig (by omega)
 ·exact noB_fig (by omega)
theorem noB_32 : noB [32] := by
 show ∀ b ∈ [(32 : UInt8)], b ≠ 10 ∧ b ≠ 13
 decide
theorem hb_pre {n : List UInt8} (h : tokL n = true) (r : List UInt8) : preL (n ++ 58 :: r) = n := by
 unfold preL
 have hn := hb_tok h (c := 58) (by decide)
 clear h
 induction n with
 | nil => simp
 | cons b n ih =>
   rw [List.cons_append, List.takeWhile_cons, if_pos (by simpa using hn b (by simp)), ih (fun x hx => hn x (by simp [hx]))]
theorem hb_fline_data (n v : ByteArray) : (flineB n v).data.toList = n.data.toList ++ 58 :: (if v.size = 0 then [] else 32 :: v.data.toList) := by
 unfold flineB
 split <;> simp
theorem hb_fparse {n v : ByteArray} (h : fieldR n v = true) : fparse (flineB n v) = ((n, v), 0) ∧ goesB (flineB n v) = false ∧ noB (flineB n v).data.toList ∧ (flineB n v).data.toList ≠ [] := by
 unfold fieldR at h
 simp only [Bool.and_eq_true] at h
 obtain ⟨h1, h2, h3⟩ := h
 have hd := hb_fline_data n v
 have hv : trimB v = v := by
  have := eq_of_beq h3
  simp only [ByteArray.toList_eq] at this
  exact ext_list this
 obtain ⟨r, hr⟩ : ∃ r, r = (if v.size = 0 then ([] : List UInt8) else 32 :: v.data.toList) := ⟨_, rfl⟩
 rw [← hr] at hd
 have hp : preL (flineB n v).data.toList = n.data.toList := by rw [hd]; exact hb_pre h1 r
 have hdr : (flineB n v).data.toList.drop (n.data.toList.length + 1) = r := by
  rw [hd, List.drop_append]
  simp
 have hsz : (flineB n v).size = n.data.toList.length + 1 + r.length := by
  rw [← hb_sz, hd]; simp; omega
 have hvr : valL r = true := by
  rw [hr]
  split
  ·rfl
  ·unfold valL at h2 ⊢
   rw [List.all_cons, h2]
   rfl
 have htr : trimB ⟨r.toArray⟩ = v := by
  unfold trimB
  show (⟨(trimL r).toArray⟩ : ByteArray) = v
  rw [hr]
  split
  ·rename_i h0
   apply ext_list
   have : v.data.toList = [] := List.eq_nil_of_length_eq_zero (by rw [hb_sz]; exact h0)
   rw [this]
   rfl
  ·have := trim_front (p := [32]) v.data.toList (by intro b hb; rw [List.mem_singleton.1 hb]; rfl)
   rw [List.singleton_append] at this
   rw [this]
   exact hv
 refine ⟨?_, ?_, ?_, ?_⟩
 ·unfold fparse
  rw [hp, hdr, if_neg (by omega), h1, hvr, htr, if_neg (by decide), if_neg (by decide)]
 ·unfold goesB
  rw [hd]
  have hn0 := hb_tok_ne h1
  rw [← hb_sz] at hn0
  cases hc : n.data.toList with
  | nil => rw [hc] at hn0; exact absurd rfl hn0
  | cons b rest =>
    have e1 := hb_tok h1 (c := 32) (by decide) b (by rw [hc]; simp)
    have e2 := hb_tok h1 (c := 9) (by decide) b (by rw [hc]; simp)
    simp [e1, e2]
 ·rw [hd]
  refine noB_app (noB_tok h1) (noB_app (a := [58]) (by show ∀ b ∈ [(58 : UInt8)], b ≠ 10 ∧ b ≠ 13; decide) (noB_val hvr))
 ·rw [hd]; simp
theorem ufold_all (fold : Int) : ∀ (l out : List ByteArray), (∀ s ∈ l, goesB s = false) → l.foldl (ufStep fold) (some out) = some (out ++ l)
 | [], out, _ => by simp
 | s :: l, out, h => by
   rw [List.foldl_cons]
   have : ufStep fold (some out) s = some (out ++ [s]) := by
    unfold ufStep
    simp only
    rw [if_pos (h s (by simp))]
   rw [this, ufold_all fold l _ (fun x hx => h x (by simp [hx]))]
   simp
theorem hb_all (l : List Fd) (h : allR l = true) : allF 0 (l.map fun f => flineB f.1 f.2) = (l, 0) := by
 unfold allR at h
 rw [List.all_eq_true] at h
 have hu : ufold 0 (l.map fun f => flineB f.1 f.2) = some (l.map fun f => flineB f.1 f.2) := by
  unfold ufold
  rw [ufold_all 0 _ [] (fun s hs => by
   obtain ⟨f, hf, rfl⟩ := List.mem_map.1 hs
   exact (hb_fparse (h f hf)).2.1)]
  simp
 unfold allF
 rw [hu]
 show pAcc (l.map fun f => flineB f.1 f.2) = (l, 0)
 rw [pAcc_ok _ (fun k hk => by
  rw [List.getElem_map]
  rw [(hb_fparse (h _ (List.getElem_mem _))).1])]
 have : (l.map fun f => flineB f.1 f.2).map (fun s => (fparse s).1) = l := by
  rw [List.map_map]
  conv => rhs; rw [← List.map_id l]
  apply List.map_congr_left
  intro f hf
  show (fparse (flineB f.1 f.2)).1 = f
  rw [(hb_fparse (h f hf)).1]
 rw [this]
def encL (ls : List (List UInt8)) : List UInt8 := ls.flatMap fun x => x ++ [13, 10]
theorem encL_cons (x : List UInt8) (ls : List (List UInt8)) : encL (x :: ls) = x ++ 13 :: 10 :: encL ls := by unfold encL; simp
theorem encL_append (a b : List (List UInt8)) : encL (a ++ b) = encL a ++ encL b := by unfold encL; rw [List.flatMap_append]
theorem encL_length (ls : List (List UInt8)) : (encL ls).length = lsum ls := by
 induction ls with
 | nil => rfl
 | cons x ls ih =>
   rw [encL_cons]
   simp only [List.length_append, List.length_cons, ih]
   unfold lsum
   simp
   omega
theorem rdL_text (most : Int) : ∀ (x r : List UInt8) (i : Nat) (cur : List UInt8), noB x → (i : Int) + x.length ≤ most → rdL most (x ++ r) i cur false = rdL most r (i + x.length) (cur ++ x) false
 | [], r, i, cur, _, _ => by simp
 | c :: x, r, i, cur, h, hm => by
   obtain ⟨h1, h2⟩ := h c (by simp)
   rw [List.length_cons] at hm
   rw [List.cons_append, rdL, if_neg (by omega), if_neg (by rw [dF h1]; simp), if_neg h2, if_neg h1, rdL_text most x r (i + 1) (cur ++ [c]) (fun b hb => h b (by simp [hb])) (by omega)]
   rw [List.append_assoc, List.length_cons, Nat.add_assoc, Nat.add_comm 1]
   rfl
theorem rdL_line (most : Int) (x r : List UInt8) (i : Nat) (h : noB x) (hm : (i : Int) + x.length + 2 ≤ most) : rdL most (x ++ 13 :: 10 :: r) i [] false = (x :: (rdL most r (i + (x.length + 2)) [] false).1, (rdL most r (i + (x.length + 2)) [] false).2) := by
 rw [rdL_text most x _ i [] h (by omega), rdL, if_neg (by omega), if_neg (by decide), if_pos rfl, rdL, if_neg (by omega), if_neg (by decide), if_neg (by decide), if_pos rfl, List.nil_append]
 rfl
theorem rdL_enc (most : Int) : ∀ (ls : List (List UInt8)) (r : List UInt8) (i : Nat), (∀ x ∈ ls, noB x) → (i : Int) + lsum ls ≤ most → rdL most (encL ls ++ r) i [] false = (ls ++ (rdL most r (i + lsum ls) [] false).1, (rdL most r (i + lsum ls) [] false).2)
 | [], r, i, _, _ => by simp [encL, lsum]
 | x :: ls, r, i, h, hm => by
   have e : lsum (x :: ls) = x.length + 2 + lsum ls := by unfold lsum; simp
   rw [e] at hm ⊢
   rw [encL_cons, List.append_assoc, List.cons_append, List.cons_append, rdL_line most x _ i (h x (by simp)) (by omega), rdL_enc most ls r _ (fun y hy => h y (by simp [hy])) (by omega), Nat.add_assoc]
   rfl
theorem scanP_all (kind fields fold : Int) : ∀ (ls : List (List UInt8)) (r : List (List UInt8)) (at_ : Nat) (got : List ByteArray), (∀ x ∈ ls, x ≠ []) → got ++ ls.map strL ≠ [] → scanP kind fields fold (ls ++ [] :: r) at_ got = (some (headP kind fields fold (got ++ ls.map strL), at_ + (lsum ls + 2)), got ++ ls.map strL)
 | [], r, at_, got, _, hn => by
   rw [List.map_nil, List.append_nil] at hn ⊢
   rw [List.nil_append, scanP, if_neg (by simp), if_pos (Or.inl hn)]
   rfl
 | x :: ls, r, at_, got, h, hn => by
   have e : lsum (x :: ls) = x.length + 2 + lsum ls := by unfold lsum; simp
   rw [List.cons_append, scanP, if_pos (h x (by simp)), scanP_all kind fields fold ls r _ _ (fun y hy => h y (by simp [hy])) (by simp), e]
   rw [show at_ + x.length + 2 + (lsum ls + 2) = at_ + (x.length + 2 + lsum ls + 2) by omega]
   simp only [List.append_assoc, List.map_cons, List.singleton_append]
theorem printA_enc (l : List Fd) : ∀ o : ByteArray, (printA o l).data.toList = o.data.toList ++ encL (l.map fun f => (flineB f.1 f.2).data.toList) := by
 induction l with
 | nil => intro o; simp [printA, encL]
 | cons f l ih =>
   intro o
   have : printA o (f :: l) = printA (o ++ frow f) l := rfl
   rw [this, ih, List.map_cons, encL_cons]
   unfold frow crlf
   simp
theorem printB_enc (m t r : ByteArray) (k n : Int) (l : List Fd) : (printB m t k n r l).data.toList = encL (((lineB m t k n r).data.toList :: l.map fun f => (flineB f.1 f.2).data.toList) ++ [[]]) := by
 unfold printB
 have : ∀ a b : ByteArray, (a ++ b).data.toList = a.data.toList ++ b.data.toList := fun a b => by simp
 rw [this, printA_enc, this, encL_append, encL_cons]
 unfold crlf
 simp [encL]
theorem strL_data (b : ByteArray) : strL b.data.toList = b := by unfold strL; apply ext_list; rfl
theorem line_right {m t r : ByteArray} {k n : Int} (h : (reqR m t n r || rspR m t n r) = true) (hk : k = 0 ∨ k = 1) : noB (lineB m t k n r).data.toList ∧ (lineB m t k n r).data.toList ≠ [] ∧ firstP (if m.size ≠ 0 then 1 else 2) (lineB m t k n r) = (⟨m, t, k, n, r, []⟩, 0) := by
 rw [Bool.or_eq_true] at h
 have hnil : ∀ b : ByteArray, b.toList.isEmpty = true → b = ⟨#[]⟩ := fun b hb => by
  apply ext_list
  rw [empty_list2, decide_eq_true_eq] at hb
  exact List.eq_nil_of_length_eq_zero (by rw [hb_sz]; exact hb)
 rcases h with h | h
 ·unfold reqR at h
  simp only [Bool.and_eq_true] at h
  obtain ⟨h1, h2, h3, h4⟩ := h
  have h3 : n = 0 := eq_of_beq h3
  have h4 := hnil r h4
  subst h3 h4
  have hm := hb_tok_ne h1
  refine ⟨?_, ?_, ?_⟩
  ·rw [hb_data hm]
   exact noB_app (noB_tok h1) (noB_app noB_32 (noB_app (noB_vis h2) (noB_app noB_32 (noB_ver hk))))
  ·rw [hb_data hm]; simp
  ·rw [if_pos hm]
   unfold firstP
   rw [if_pos rfl, hb_req_of h1 h2 hk]
 ·unfold rspR at h
  simp only [Bool.and_eq_true, decide_eq_true_eq] at h
  obtain ⟨h1, h2, h3, h4, h5⟩ := h
  have h1 := hnil m h1
  have h2 := hnil t h2
  subst h1 h2
  refine ⟨?_, ?_, ?_⟩
  ·rw [hb_data' rfl]
   exact noB_app (noB_ver hk) (noB_app noB_32 (noB_app (noB_pad h3 h4) (noB_app noB_32 (noB_val h5))))
  ·rw [hb_data' rfl]; simp
  ·rw [if_neg (by decide)]
   unfold firstP
   rw [if_neg (by decide), hb_stat_of hk h3 h4 h5]
end Go.Proofs.YtaojfiegnebbdaaGreatDoor