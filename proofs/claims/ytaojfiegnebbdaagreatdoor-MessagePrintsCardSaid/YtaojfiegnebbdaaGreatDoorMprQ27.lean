/- Texts packed for one claim, 27 of 50: HdB HRight HdF HeadPrints HBackP. -/
import Derived.Test.YtaojfiegnebbdaaGreatDoorMprQ8
import Derived.Test.YtaojfiegnebbdaaGreatDoorMprQ9
import Derived.Test.YtaojfiegnebbdaaGreatDoorMprQ24
import Derived.Test.YtaojfiegnebbdaaGreatDoorMprQ26
import Derived.Test.YtaojfiegnebbdaaGreatDoorMprQ22
set_option maxRecDepth 100000
set_option maxHeartbeats 16000000
-- HdB
-- HRight
set_option linter.unusedSimpArgs false
set_option linter.unusedVariables false
namespace Go.Proofs.YtaojfiegnebbdaaGreatDoor
open Go.RowKit
theorem wrong_any (n v : ByteArray) (hn : n.size ≤ 9223372036854775807) (hv : v.size ≤ 9223372036854775807) (w : World) : Calls Tryz.prog 65 #[.agg #[.string n, .string v]] w fun e w' => e = .returned (.bool (!fieldR n v)) ∧ Below w.heap.size w w' := by
 have HR := lH (fun (W : World) => fright_any n v hn hv W)
 obtain ⟨b, hb⟩ : ∃ b, b = fieldR n v := ⟨_, rfl⟩
 rw [← hb] at HR ⊢
 clear hb
 go_enter Tryz.func65, Tryz.ntmps65
 go_wp2_with (go_at_call 66; refine (HR.out _).mono ?_; rintro e1 w1 ⟨rfl, hb1⟩; have HB1 := lH (below_one hb1); clear hb1)
 go_ret
 exact ⟨rfl, HB1.out⟩
def allR (l : List Fd) : Bool := l.all fun f => fieldR f.1 f.2
theorem index_wrong (v : Value) (l : List Fd) (w : World) (h : Flds w v l) (hl : l.length ≤ 1000000) (hs : ∀ g ∈ l, g.1.size ≤ 1000000 ∧ g.2.size ≤ 1000000) :
 Calls Tryz.prog 110 #[v, .func (.func 65) #[] #[]] w fun e w' => ∃ z : Int, e = .returned (.int .i64 z) ∧ decide (0 ≤ z) = !allR l ∧ Below w.heap.size w w' := by
 obtain ⟨p, c, rfl, hc⟩ := h
 have HC := lH hc
 have HS := lH hs
 clear hc hs
 go_enter Tryz.func110, Tryz.ntmps110
 go_wp2_with fail
 go_loopw [8] (fun u8 wr => ∃ k : Nat, k ≤ l.length ∧ u8 = .int .i64 k ∧ (∀ j (hj : j < l.length), j < k → fieldR l[j].1 l[j].2 = true) ∧ Below w.heap.size w wr) (fun u8 _ => l.length - (intOf u8).toNat)
 case atStart => exact ⟨0, Nat.zero_le _, rfl, fun j _ hj => absurd hj (Nat.not_lt_zero _), Below.refl _ _⟩
 case round =>
  obtain ⟨k, hk, rfl, hpre, hbel⟩ := hrel
  have HP := lH hpre
  have HB := lH hbel
  clear hpre hbel
  by_cases hlt : k < l.length
  ·have hk1 : decide ((k : Int) < (l.length : Int)) = true := dT (by omega)
   obtain ⟨b, off, hp, c0, c1⟩ := HC.out k hlt
   subst hp
   obtain ⟨g, hg⟩ : ∃ g, g = l[k] := ⟨_, rfl⟩
   rw [← hg] at c0 c1
   have hgs := HS.out g (by rw [hg]; exact List.getElem_mem hlt)
   obtain ⟨n, v⟩ := g
   have e0 := (bcell HB.out b _ (World.block_lt_of_cell? _ _ c0)).trans c0
   have e1 := (bcell HB.out b _ (World.block_lt_of_cell? _ _ c1)).trans c1
   have HW := lH (fun (W : World) => wrong_any n v (by simp only at hgs; omega) (by simp only at hgs; omega) W)
   obtain ⟨F, hF⟩ : ∃ F, F = fieldR n v := ⟨_, rfl⟩
   rw [← hF] at HW
   have HG := lH hg
   have HF := lH hF
   have hoff : off + k * 2 = off + 2 * k := by omega
   have hoff1 : off + k * 2 + 1 = off + 2 * k + 1 := by omega
   rw [← hoff] at e0
   rw [← hoff1] at e1
   clear hg hF hgs c0 c1 hoff hoff1
   simp only at e0 e1
   cases F with
   | true =>
     go_wp2_with (go_at_call 65; refine (HW.out _).mono ?_; rintro e2 w2 ⟨rfl, hb2⟩; have HB2 := lH (HB.out.trans (hb2.mono HB.out.size)); clear hb2)
     go_roundw
     case rel =>
      refine ⟨k + 1, hlt, by go_num, fun j hj hjk => ?_, HB2.out⟩
      by_cases e : j = k
      ·subst e
       rw [← HG.out]
       exact HF.out.symm
      ·exact HP.out j hj (by omega)
     case measure => simp [intOf]; omega
   | false =>
     go_wp2_with (go_at_call 65; refine (HW.out _).mono ?_; rintro e2 w2 ⟨rfl, hb2⟩; have HB2 := lH (HB.out.trans (hb2.mono HB.out.size)); clear hb2)
     go_ret
     refine ⟨(k : Int), rfl, ?_, HB2.out⟩
     have hA : allR l = false := by
      unfold allR
      rw [List.all_eq_false]
      refine ⟨l[k], List.getElem_mem hlt, ?_⟩
      rw [← HG.out, ← HF.out]
      decide
     rw [hA, dT (by omega)]
     rfl
  ·have hk1 : decide ((k : Int) < (l.length : Int)) = false := dF (by omega)
   go_wp2_with fail
   go_ret
   refine ⟨-1, rfl, ?_, HB.out⟩
   have hA : allR l = true := by
    unfold allR
    rw [List.all_eq_true]
    intro x hx
    obtain ⟨j, hj, rfl⟩ := List.getElem_of_mem hx
    exact HP.out j hj (by omega)
   rw [hA]
   rfl
theorem contains_wrong (v : Value) (l : List Fd) (w : World) (h : Flds w v l) (hl : l.length ≤ 1000000) (hs : ∀ g ∈ l, g.1.size ≤ 1000000 ∧ g.2.size ≤ 1000000) :
 Calls Tryz.prog 69 #[v, .func (.func 65) #[] #[]] w fun e w' => e = .returned (.bool (!allR l)) ∧ Below w.heap.size w w' := by
 have HI := lH (index_wrong v l w h hl hs)
 obtain ⟨A, hA⟩ : ∃ A, A = !allR l := ⟨_, rfl⟩
 rw [← hA] at HI ⊢
 clear hA h hl hs
 go_enter Tryz.func69, Tryz.ntmps69
 go_wp2_with (go_at_call 110; refine HI.out.mono ?_; rintro e1 w1 ⟨z, rfl, hz, hb1⟩; have HZ := lH hz; have HB1 := lH hb1; clear hz hb1)
 go_ret
 refine ⟨?_, HB1.out⟩
 rw [← HZ.out]
 rfl
def reqR (m t : ByteArray) (n : Int) (r : ByteArray) : Bool := tokL m.data.toList && (visL t.data.toList && (n == 0 && r.toList.isEmpty))
def rspR (m t : ByteArray) (n : Int) (r : ByteArray) : Bool := m.toList.isEmpty && (t.toList.isEmpty && (decide (100 ≤ n) && (decide (n ≤ 599) && valL r.data.toList)))
theorem request_is (m t r : ByteArray) (k n : Int) (f : Value) (hm : m.size ≤ 1000000) (ht : t.size ≤ 1000000) (hr : r.size ≤ 1000000) (w : World) :
 Calls Tryz.prog 67 #[.agg #[.string m, .string t, .int .i64 k, .int .i64 n, .string r, f]] w fun e w' => e = .returned (.bool (reqR m t n r)) ∧ Below w.heap.size w w' := by
 have H1 := lH (fun (W : World) => token_any m (by omega) W)
 have H2 := lH (fun (W : World) => visible_any t (by omega) W)
 have KR := lH (Blk.new w #[.string m, .string t, .int .i64 k, .int .i64 n, .string r, f] 34)
 obtain ⟨p1, h1⟩ : ∃ p, p = tokL m.data.toList := ⟨_, rfl⟩
 obtain ⟨p2, h2⟩ : ∃ p, p = visL t.data.toList := ⟨_, rfl⟩
 have HR : Hid (reqR m t n r = (p1 && (p2 && (n == 0 && r.toList.isEmpty)))) := by show _ = _; unfold reqR; rw [h1, h2]
 rw [← h1] at H1
 rw [← h2] at H2
 clear h1 h2 hm ht hr
 cases p1 with
 | false =>
   go_enter Tryz.func67, Tryz.ntmps67
   go_wp2_with (go_at_call 106; refine (H1.out _).mono ?_; rintro e1 w1 ⟨rfl, hb1⟩; have HB1 := lH (below_one hb1); clear hb1)
   go_ret
   exact ⟨by rw [HR.out]; rfl, HB1.out⟩
 | true =>
   cases p2 with
   | false =>
     go_enter Tryz.func67, Tryz.ntmps67
     go_wp2_with (first | (go_at_call 106; refine (H1.out _).mono ?_; rintro e1 w1 ⟨rfl, hb1⟩; have HB1 := lH (below_one hb1); have K1 := lH (KR.out.call hb1); obtain ⟨x1, x3, x4⟩ := bc3 K1.out 1 3 4; simp at x1 x3 x4; clear hb1) | (go_at_call 109; refine (H2.out _).mono ?_; rintro e2 w2 ⟨rfl, hb2⟩; have HB2 := lH (HB1.out.trans (hb2.mono HB1.out.size)); clear hb2))
     go_ret
     exact ⟨by rw [HR.out]; rfl, HB2.out⟩
   | true =>
     cases h3 : (n == 0)
     all_goals
      cases h4 : r.toList.isEmpty
      all_goals
       go_enter Tryz.func67, Tryz.ntmps67
       go_wp2_with (first | (go_at_call 106; refine (H1.out _).mono ?_; rintro e1 w1 ⟨rfl, hb1⟩; have HB1 := lH (below_one hb1); have K1 := lH (KR.out.call hb1); have x1 := K1.out.cell 1; simp at x1; clear hb1) | (go_at_call 109; refine (H2.out _).mono ?_; rintro e2 w2 ⟨rfl, hb2⟩; have HB2 := lH (HB1.out.trans (hb2.mono HB1.out.size)); have K2 := lH (K1.out.call hb2); obtain ⟨y3, y4⟩ := bc2 K2.out 3 4; simp at y3 y4; clear hb2))
       go_ret
       exact ⟨by rw [HR.out, h3, h4]; rfl, HB2.out⟩
theorem response_is (m t r : ByteArray) (k n : Int) (f : Value) (hm : m.size ≤ 1000000) (ht : t.size ≤ 1000000) (hr : r.size ≤ 1000000) (w : World) :
 Calls Tryz.prog 68 #[.agg #[.string m, .string t, .int .i64 k, .int .i64 n, .string r, f]] w fun e w' => e = .returned (.bool (rspR m t n r)) ∧ Below w.heap.size w w' := by
 have H1 := lH (fun (W : World) => value_any r (by omega) W)
 have HB0 := lH ((Below.refl w.heap.size w).alloc (nR _) (.cells #[.string m, .string t, .int .i64 k, .int .i64 n, .string r, f] 34))
 obtain ⟨p5, h5⟩ : ∃ p, p = valL r.data.toList := ⟨_, rfl⟩
 have HR : Hid (rspR m t n r = (m.toList.isEmpty && (t.toList.isEmpty && (decide (100 ≤ n) && (decide (n ≤ 599) && p5))))) := by show _ = _; unfold rspR; rw [h5]
 rw [← h5] at H1
 clear h5 hm ht hr
 have hc : m.toList.isEmpty = false ∨ (m.toList.isEmpty = true ∧ (t.toList.isEmpty = false ∨ (t.toList.isEmpty = true ∧ (decide (100 ≤ n) = false ∨ (decide (100 ≤ n) = true ∧ (decide (n ≤ 599) = false ∨ decide (n ≤ 599) = true)))))) := by
  cases m.toList.isEmpty <;> cases t.toList.isEmpty <;> cases decide (100 ≤ n) <;> cases decide (n ≤ 599) <;> simp
 rcases hc with e1 | ⟨e1, e2 | ⟨e2, e3 | ⟨e3, e4 | e4⟩⟩⟩
 all_goals
  go_enter Tryz.func68, Tryz.ntmps68
  go_wp2_with (go_at_call 107; refine (H1.out _).mono ?_; rintro x1 w1 ⟨rfl, hb1⟩; have HB1 := lH (below_one hb1); clear hb1)
  go_ret
  first
   | exact ⟨by rw [HR.out, e1]; rfl, HB0.out⟩
   | exact ⟨by rw [HR.out, e1, e2]; rfl, HB0.out⟩
   | exact ⟨by rw [HR.out, e1, e2, e3]; rfl, HB0.out⟩
   | exact ⟨by rw [HR.out, e1, e2, e3, e4]; rfl, HB0.out⟩
   | exact ⟨by rw [HR.out, e1, e2, e3, e4]; rfl, HB1.out⟩
def rightP (m t : ByteArray) (k n : Int) (r : ByteArray) (l : List Fd) : Bool := (reqR m t n r || rspR m t n r) && ((k == 0 || k == 1) && allR l)
theorem hright_any (m t r : ByteArray) (k n : Int) (f : Value) (l : List Fd) (hm : m.size ≤ 1000000) (ht : t.size ≤ 1000000) (hr : r.size ≤ 1000000) (w : World) (h : Flds w f l) (hl : l.length ≤ 1000000) (hs : ∀ g ∈ l, g.1.size ≤ 1000000 ∧ g.2.size ≤ 1000000) :
 Calls Tryz.prog 39 #[.agg #[.string m, .string t, .int .i64 k, .int .i64 n, .string r, f]] w fun e w' => e = .returned (.bool (rightP m t k n r l)) ∧ Below w.heap.size w w' := by
 have H1 := lH (fun (W : World) => request_is m t r k n f hm ht hr W)
 have H2 := lH (fun (W : World) => response_is m t r k n f hm ht hr W)
 have H3 := lH (fun (W : World) (hW : Below w.heap.size w W) => contains_wrong f l W (h.below hW) hl hs)
 have KR := lH (Blk.new w #[.string m, .string t, .int .i64 k, .int .i64 n, .string r, f] 34)
 obtain ⟨p1, h1⟩ : ∃ p, p = reqR m t n r := ⟨_, rfl⟩
 obtain ⟨p2, h2⟩ : ∃ p, p = rspR m t n r := ⟨_, rfl⟩
 obtain ⟨p5, h5⟩ : ∃ p, p = allR l := ⟨_, rfl⟩
 have HR : Hid (rightP m t k n r l = ((p1 || p2) && ((k == 0 || k == 1) && p5))) := by show _ = _; unfold rightP; rw [h1, h2, h5]
 rw [← h1] at H1
 rw [← h2] at H2
 rw [← h5] at H3
 clear h1 h2 h5 hm ht hr h hl hs
 have hc : ((k == 0) = true) ∨ ((k == 0) = false ∧ (k == 1) = true) ∨ ((k == 0) = false ∧ (k == 1) = false) := by cases (k == 0) <;> cases (k == 1) <;> simp
 cases p1 <;> cases p2
 all_goals
  rcases hc with e1 | ⟨e1, e2⟩ | ⟨e1, e2⟩
  all_goals
   go_enter Tryz.func39, Tryz.ntmps39
   go_wp2_with (first
    | (go_at_call 67; refine (H1.out _).mono ?_; rintro x1 w1 ⟨rfl, hb1⟩; have HB := lH (below_one hb1); have K1 := lH (KR.out.call hb1); obtain ⟨x0, x1, x2, x3, x4, x5⟩ := bc6 K1.out 0 1 2 3 4 5; simp at x0 x1 x2 x3 x4 x5; clear hb1)
    | (go_at_call 68; refine (H2.out _).mono ?_; rintro x2 w2 ⟨rfl, hb2⟩; have HB := lH (HB.out.trans (hb2.mono HB.out.size)); have K2 := lH (K1.out.call hb2); clear x0 x1 x2 x3 x4 x5; obtain ⟨y0, y1, y2, y3, y4, y5⟩ := bc6 K2.out 0 1 2 3 4 5; simp at y0 y1 y2 y3 y4 y5; clear hb2)
    | (go_at_call 69; refine (H3.out _ HB.out).mono ?_; rintro x3 w3 ⟨rfl, hb3⟩; have HB := lH (HB.out.trans (hb3.mono HB.out.size)); clear hb3))
   go_ret
   refine ⟨?_, HB.out⟩
   rw [HR.out]
   cases p5 <;> simp_all
theorem right_ref (m t : ByteArray) (k n : Int) (r : ByteArray) (l : List Fd) : rightP m t k n r l = (((k == 0 || k == 1) && (if m.toList.isEmpty = true then (t.toList.isEmpty && (decide (100 ≤ n) && (decide (n ≤ 599) && valL r.data.toList))) else (tokL m.data.toList && (visL t.data.toList && (n == 0 && r.toList.isEmpty))))) && allR l) := by
 unfold rightP reqR rspR
 cases hm : m.toList.isEmpty with
 | true =>
   have h1 : tokL m.data.toList = false := by
    rw [isEmpty_list] at hm
    unfold tokL
    rw [hm]
    rfl
   rw [h1]
   cases (k == 0 || k == 1) <;> simp
 | false => cases (k == 0 || k == 1) <;> simp
theorem rright_any (m t r : ByteArray) (k n : Int) (f : Value) (l : List Fd) (hm : m.size ≤ 1000000) (ht : t.size ≤ 1000000) (hr : r.size ≤ 1000000) (w : World) (h : Flds w f l) (hl : l.length ≤ 1000000) (hs : ∀ g ∈ l, g.1.size ≤ 1000 ∧ g.2.size ≤ 1000) :
 Calls Tryz.prog 42 #[.agg #[.string m, .string t, .int .i64 k, .int .i64 n, .string r, f]] w fun e w' => e = .returned (.bool (rightP m t k n r l)) ∧ Below w.heap.size w w' := by
 obtain ⟨p, c, rfl, hcl⟩ := h
 have H1 := lH (fun (W : World) => rtoken_any m (by omega) W)
 have H2 := lH (fun (W : World) => rvisible_any t (by omega) W)
 have H3 := lH (fun (W : World) => rvalue_any r (by omega) W)
 have KR := lH (Blk.new w #[.string m, .string t, .int .i64 k, .int .i64 n, .string r, .slice p l.length c] 34)
 have HB0 := lH ((Below.refl w.heap.size w).alloc (nR _) (.cells #[.string m, .string t, .int .i64 k, .int .i64 n, .string r, .slice p l.length c] 34))
 obtain ⟨p1, h1⟩ : ∃ p, p = tokL m.data.toList := ⟨_, rfl⟩
 obtain ⟨p2, h2⟩ : ∃ p, p = visL t.data.toList := ⟨_, rfl⟩
 obtain ⟨p3, h3⟩ : ∃ p, p = valL r.data.toList := ⟨_, rfl⟩
 obtain ⟨ok, hok⟩ : ∃ b, b = ((k == 0 || k == 1) && (if m.toList.isEmpty = true then (t.toList.isEmpty && (decide (100 ≤ n) && (decide (n ≤ 599) && p3))) else (p1 && (p2 && (n == 0 && r.toList.isEmpty))))) := ⟨_, rfl⟩
 have HR : Hid (rightP m t k n r l = (ok && allR l)) := by show _ = _; rw [right_ref, hok, h1, h2, h3]
 rw [← h1] at H1
 rw [← h2] at H2
 rw [← h3] at H3
 have HC := lH hcl
 have HS := lH hs
 have HOK := lH hok
 clear h1 h2 h3 hok hm ht hr hs hcl
 -- the loop over the fields
 have HLOOP : Hid True := trivial
 have hc : ((k == 0) = true) ∨ ((k == 0) = false ∧ (k == 1) = true) ∨ ((k == 0) = false ∧ (k == 1) = false) := by cases (k == 0) <;> cases (k == 1) <;> simp
 have hc2 : (m.toList.isEmpty = true ∧ (t.toList.isEmpty = false ∨ (t.toList.isEmpty = true ∧ (decide (100 ≤ n) = false ∨ (decide (100 ≤ n) = true ∧ (decide (n ≤ 599) = false ∨ decide (n ≤ 599) = true)))))) ∨ (m.toList.isEmpty = false ∧ (p1 = false ∨ (p1 = true ∧ (p2 = false ∨ (p2 = true ∧ ((n == 0) = false ∨ (n == 0) = true)))))) := by
  cases m.toList.isEmpty <;> cases t.toList.isEmpty <;> cases decide (100 ≤ n) <;> cases decide (n ≤ 599) <;> cases p1 <;> cases p2 <;> cases (n == 0) <;> simp
 have HFR : Hid (∀ (W : World) (i : Nat) (hi : i < l.length), Calls Tryz.prog 82 #[.agg #[.string l[i].1, .string l[i].2]] W fun e w' => e = .returned (.bool (fieldR l[i].1 l[i].2)) ∧ Below W.heap.size W w') := fun W i hi => rfright_any _ _ (by have := (HS.out l[i] (List.getElem_mem hi)).1; omega) (by have := (HS.out l[i] (List.getElem_mem hi)).2; omega) W
 rcases hc with e1 | ⟨e1, e2⟩ | ⟨e1, e2⟩
 all_goals
  rcases hc2 with ⟨g1, g2 | ⟨g2, g3 | ⟨g3, g4 | g4⟩⟩⟩ | ⟨g1, g2 | ⟨g2, g3 | ⟨g3, g4 | g4⟩⟩⟩
  all_goals
   try subst g2
   try subst g3
   go_enter Tryz.func42, Tryz.ntmps42
   go_wp2_with (first
    | (go_at_call 79; refine (H1.out _).mono ?_; rintro x1 w1 ⟨rfl, h1⟩; subst h1)
    | (go_at_call 80; refine (H2.out _).mono ?_; rintro x1 w1 ⟨rfl, h1⟩; subst h1)
    | (go_at_call 81; refine (H3.out _).mono ?_; rintro x1 w1 ⟨rfl, h1⟩; subst h1))
   go_loopw [3, 4] (fun u3 u4 wr => ∃ (i : Nat) (b0 : Bool), i ≤ l.length ∧ u4 = .int .i64 i ∧ u3 = .bool b0 ∧ b0 = (ok && allR (l.take i)) ∧ Blk wr w.heap.size #[.string m, .string t, .int .i64 k, .int .i64 n, .string r, .slice p l.length c] 34 ∧ Below w.heap.size w wr) (fun _ u4 _ => l.length - (intOf u4).toNat)
   case atStart => exact ⟨0, _, Nat.zero_le _, rfl, rfl, by rw [HOK.out]; simp_all [allR] <;> (intros; exfalso; omega), KR.out, HB0.out⟩
   case round =>
    obtain ⟨i, b0, hi, rfl, rfl, hb0, hkr, hbel⟩ := hrel
    have H0 := lH hb0
    have HKR := lH hkr
    have HB := lH hbel
    have x5 : wr.cell? ⟨w.heap.size, 5, none⟩ = some (.slice p l.length c) := hkr.cell 5
    clear hb0 hkr hbel
    by_cases hlt : i < l.length
    ·have hk1 : decide ((i : Int) < (l.length : Int)) = true := dT (by omega)
     obtain ⟨b, off, hp, c0, c1⟩ := HC.out i hlt
     subst hp
     have q0 := (bcell HB.out b _ (World.block_lt_of_cell? _ _ c0)).trans c0
     have q1 := (bcell HB.out b _ (World.block_lt_of_cell? _ _ c1)).trans c1
     have HF := lH (fun (W : World) => HFR.out W i hlt)
     obtain ⟨⟨fn, fv⟩, hg⟩ : ∃ g, g = l[i] := ⟨_, rfl⟩
     rw [← hg] at q0 q1 HF
     have hoff : off + i * 2 = off + 2 * i := by omega
     have hoff1 : off + i * 2 + 1 = off + 2 * i + 1 := by omega
     rw [← hoff] at q0
     rw [← hoff1] at q1
     obtain ⟨F, hF⟩ : ∃ F, F = fieldR fn fv := ⟨_, rfl⟩
     simp only at q0 q1 HF
     rw [← hF] at HF
     have hst : allR (l.take (i + 1)) = (allR (l.take i) && F) := by
      rw [List.take_succ_eq_append_getElem hlt, ← hg]
      unfold allR
      rw [List.all_append, hF]
      simp
     have HST := lH hst
     clear hg c0 c1 hoff hoff1 hF hst
     cases b0 with
     | false =>
       go_wp2_with fail
       go_roundw
       case rel => exact ⟨i + 1, false, hlt, by go_num, rfl, by rw [HST.out, ← Bool.and_assoc, ← H0.out]; rfl, HKR.out, HB.out⟩
       case measure => simp [intOf]; omega
     | true =>
       go_wp2_with (go_at_call 82; refine (HF.out _).mono ?_; rintro y1 w2 ⟨rfl, hb2⟩; have HB2 := lH hb2; clear hb2)
       go_roundw
       case rel => exact ⟨i + 1, F, hlt, by go_num, rfl, by rw [HST.out, ← Bool.and_assoc, ← H0.out]; simp, HKR.out.call HB2.out, HB.out.trans (HB2.out.mono HB.out.size)⟩
       case measure => simp [intOf]; omega
    ·have hk1 : decide ((i : Int) < (l.length : Int)) = false := dF (by omega)
     have hfin : b0 = (ok && allR l) := by rw [H0.out, List.take_of_length_le (by omega)]
     have HFI := lH hfin
     clear hfin
     go_wp2_with fail
     go_ret
     exact ⟨by rw [HR.out, ← HFI.out]; rfl, HB.out⟩
end Go.Proofs.YtaojfiegnebbdaaGreatDoor
-- HdF
-- HeadPrints
set_option linter.unusedSimpArgs false
set_option linter.unusedVariables false
namespace Go.Proofs.YtaojfiegnebbdaaGreatDoor
open Go.RowKit
theorem flds_of {w : World} {A : Option Addr} {len cap : Nat} {l : List Fd} (h : Fds w A len l) : Flds w (.slice A len cap) l := by
 refine ⟨A, cap, by rw [h.1], fun i hi => ?_⟩
 obtain ⟨b, off, e, _, hc⟩ := h.2 (by have := h.1; omega)
 obtain ⟨c0, c1⟩ := hc i l[i] (List.getElem?_eq_getElem hi)
 exact ⟨b, off, e, by rw [Nat.mul_comm 2 i]; exact c0, by rw [Nat.mul_comm 2 i]; exact c1⟩
def shortP (m t r : ByteArray) (l : List Fd) : Bool := fewF l && (decide (m.size ≤ 100) && (decide (t.size ≤ 500) && decide (r.size ≤ 300)))
theorem shortP_ok {m t r : ByteArray} {l : List Fd} (h : shortP m t r l = true) : l.length ≤ 40 ∧ (∀ g ∈ l, g.1.size ≤ 1000 ∧ g.2.size ≤ 1000) ∧ m.size ≤ 1000 ∧ t.size ≤ 1000 ∧ r.size ≤ 1000 := by
 unfold shortP fewF at h
 simp only [Bool.and_eq_true, decide_eq_true_eq, List.all_eq_true] at h
 obtain ⟨⟨h1, h2⟩, h3, h4, h5⟩ := h
 refine ⟨h1, fun g hg => ?_, by omega, by omega, by omega⟩
 have := h2 g hg
 omega
theorem short_any {w : World} {A : Option Addr} {len cap : Nat} {l : List Fd} (m t r : ByteArray) (k n : Int) (h : Fds w A len l) (hl : len ≤ 9223372036854775807) :
 Calls Tryz.prog 37 #[.agg #[.string m, .string t, .int .i64 k, .int .i64 n, .string r, .slice A len cap]] w fun e w' => e = .returned (.bool (shortP m t r l)) ∧ Below w.heap.size w w' := by
 have hb0 : Below w.heap.size w (w.alloc (.cells #[.string m, .string t, .int .i64 k, .int .i64 n, .string r, .slice A len cap] 34)) := (Below.refl _ _).alloc (nR _) _
 have HF := lH (few_any (cap := cap) (h.below hb0) hl)
 have KR := lH (Blk.new w #[.string m, .string t, .int .i64 k, .int .i64 n, .string r, .slice A len cap] 34)
 obtain ⟨p1, h1⟩ : ∃ p, p = fewF l := ⟨_, rfl⟩
 have HR : Hid (shortP m t r l = (p1 && (decide (m.size ≤ 100) && (decide (t.size ≤ 500) && decide (r.size ≤ 300))))) := by show _ = _; unfold shortP; rw [h1]
 rw [← h1] at HF
 clear h h1 hl hb0
 have dm : decide ((m.size : Int) ≤ 100) = decide (m.size ≤ 100) := decide_eq_decide.2 (by omega)
 have dt : decide ((t.size : Int) ≤ 500) = decide (t.size ≤ 500) := decide_eq_decide.2 (by omega)
 have dr : decide ((r.size : Int) ≤ 300) = decide (r.size ≤ 300) := decide_eq_decide.2 (by omega)
 have HD := lH (And.intro dm (And.intro dt dr))
 clear dm dt dr
 cases p1
 ·go_enter Tryz.func37, Tryz.ntmps37
  go_wp2_with (go_at_call 38; refine HF.out.mono ?_; rintro e1 w1 ⟨rfl, hb1⟩; have HB1 := lH (below_one hb1); clear hb1)
  go_ret
  exact ⟨by rw [HR.out]; rfl, HB1.out⟩
 ·by_cases hm : m.size ≤ 100 <;> by_cases ht : t.size ≤ 500 <;> by_cases hr : r.size ≤ 300
  all_goals
   first | (have dm : decide ((m.size : Int) ≤ 100) = true := dT (by omega)) | (have dm : decide ((m.size : Int) ≤ 100) = false := dF (by omega))
   first | (have dt : decide ((t.size : Int) ≤ 500) = true := dT (by omega)) | (have dt : decide ((t.size : Int) ≤ 500) = false := dF (by omega))
   first | (have dr : decide ((r.size : Int) ≤ 300) = true := dT (by omega)) | (have dr : decide ((r.size : Int) ≤ 300) = false := dF (by omega))
   go_enter Tryz.func37, Tryz.ntmps37
   go_wp2_with (go_at_call 38; refine HF.out.mono ?_; rintro e1 w1 ⟨rfl, hb1⟩; have HB1 := lH (below_one hb1); have K1 := lH (KR.out.call hb1); obtain ⟨x0, x1, x4⟩ := bc3 K1.out 0 1 4; simp at x0 x1 x4; clear hb1)
   go_ret
   refine ⟨?_, HB1.out⟩
   rw [HR.out]
   simp [hm, ht, hr]
end Go.Proofs.YtaojfiegnebbdaaGreatDoor
-- HBackP
set_option linter.unusedSimpArgs false
set_option linter.unusedVariables false
namespace Go.Proofs.YtaojfiegnebbdaaGreatDoor
open Go.RowKit
end Go.Proofs.YtaojfiegnebbdaaGreatDoor