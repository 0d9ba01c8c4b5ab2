/- Texts packed for one claim, 32 of 45: HdB HRight RwA. -/
import Derived.Test.YtcpjkemjpgggcaaGreatDoorRefusalWholeQ6
import Derived.Test.YtcpjkemjpgggcaaGreatDoorRefusalWholeQ15
import Derived.Test.YtcpjkemjpgggcaaGreatDoorRefusalWholeQ28
import Derived.Test.YtcpjkemjpgggcaaGreatDoorRefusalWholeQ30
import Derived.Test.YtcpjkemjpgggcaaGreatDoorRefusalWholeQ4
import Derived.Test.YtcpjkemjpgggcaaGreatDoorRefusalWholeQ2
import Derived.Test.YtcpjkemjpgggcaaGreatDoorRefusalWholeQ10
import Derived.Test.YtcpjkemjpgggcaaGreatDoorRefusalWholeQ31
-- HdB
-- HRight
set_option linter.unusedSimpArgs false
set_option linter.unusedVariables false
namespace Go.Proofs.YtcpjkemjpgggcaaGreatDoor
open Go.RowKit
set_option maxRecDepth 100000 in
theorem wrong_any (n v : ByteArray) (hn : n.size ≤ 9223372036854775807) (hv : v.size ≤ 9223372036854775807) (w : World) : Calls Tryz.prog 73 #[.agg #[.string n, .string v]] w fun e w' => e = .returned (.bool (!fieldR n v)) ∧ Below w.heap.size w w' := by
  have HR := Lib.hid (fun (W : World) => fright_any n v hn hv W)
  obtain ⟨b, hb⟩ : ∃ b, b = fieldR n v := ⟨_, rfl⟩
  rw [← hb] at HR ⊢
  clear hb
  go_enter Tryz.func73, Tryz.ntmps73
  go_wp2_with (go_at_call 43; refine (HR.out _).mono ?_; rintro e1 w1 ⟨rfl, hb1⟩; have HB1 := Lib.hid (below_one hb1); clear hb1)
  go_ret
  exact ⟨rfl, HB1.out⟩
def allR (l : List Fd) : Bool := l.all fun f => fieldR f.1 f.2
set_option maxRecDepth 100000 in
set_option maxHeartbeats 2000000 in
theorem index_wrong (v : Value) (l : List Fd) (w : World) (h : Flds w v l) (hl : l.length ≤ 1000000) (hs : ∀ g ∈ l, g.1.size ≤ 1000000 ∧ g.2.size ≤ 1000000) :
    Calls Tryz.prog 88 #[v, .func (.func 73) #[] #[]] w fun e w' => ∃ z : Int, e = .returned (.int .i64 z) ∧ decide (0 ≤ z) = !allR l ∧ Below w.heap.size w w' := by
  obtain ⟨p, c, rfl, hc⟩ := h
  have HC := Lib.hid hc
  have HS := Lib.hid hs
  clear hc hs
  go_enter Tryz.func88, Tryz.ntmps88
  go_wp2_with fail
  go_loopw [8] (fun u8 wr => ∃ k : Nat, k ≤ l.length ∧ u8 = .int .i64 k ∧ (∀ j (hj : j < l.length), j < k → fieldR l[j].1 l[j].2 = true) ∧ Below w.heap.size w wr) (fun u8 _ => l.length - (intOf u8).toNat)
  case atStart => exact ⟨0, Nat.zero_le _, rfl, fun j _ hj => absurd hj (Nat.not_lt_zero _), Below.refl _ _⟩
  case round =>
    obtain ⟨k, hk, rfl, hpre, hbel⟩ := hrel
    have HP := Lib.hid hpre
    have HB := Lib.hid hbel
    clear hpre hbel
    by_cases hlt : k < l.length
    · have hk1 : decide ((k : Int) < (l.length : Int)) = true := decide_eq_true (by omega)
      obtain ⟨b, off, hp, c0, c1⟩ := HC.out k hlt
      subst hp
      obtain ⟨g, hg⟩ : ∃ g, g = l[k] := ⟨_, rfl⟩
      rw [← hg] at c0 c1
      have hgs := HS.out g (by rw [hg]; exact List.getElem_mem hlt)
      obtain ⟨n, v⟩ := g
      have e0 := (bcell HB.out b _ (World.block_lt_of_cell? _ _ c0)).trans c0
      have e1 := (bcell HB.out b _ (World.block_lt_of_cell? _ _ c1)).trans c1
      have HW := Lib.hid (fun (W : World) => wrong_any n v (by simp only at hgs; omega) (by simp only at hgs; omega) W)
      obtain ⟨F, hF⟩ : ∃ F, F = fieldR n v := ⟨_, rfl⟩
      rw [← hF] at HW
      have HG := Lib.hid hg
      have HF := Lib.hid hF
      have hoff : off + k * 2 = off + 2 * k := by omega
      have hoff1 : off + k * 2 + 1 = off + 2 * k + 1 := by omega
      rw [← hoff] at e0
      rw [← hoff1] at e1
      clear hg hF hgs c0 c1 hoff hoff1
      simp only at e0 e1
      cases F with
      | true =>
        go_wp2_with (go_at_call 73; refine (HW.out _).mono ?_; rintro e2 w2 ⟨rfl, hb2⟩; have HB2 := Lib.hid (HB.out.trans (hb2.mono HB.out.size)); clear hb2)
        go_roundw
        case rel =>
          refine ⟨k + 1, hlt, by go_num, fun j hj hjk => ?_, HB2.out⟩
          by_cases e : j = k
          · subst e
            rw [← HG.out]
            exact HF.out.symm
          · exact HP.out j hj (by omega)
        case measure => simp [intOf]; omega
      | false =>
        go_wp2_with (go_at_call 73; refine (HW.out _).mono ?_; rintro e2 w2 ⟨rfl, hb2⟩; have HB2 := Lib.hid (HB.out.trans (hb2.mono HB.out.size)); clear hb2)
        go_ret
        refine ⟨(k : Int), rfl, ?_, HB2.out⟩
        have hA : allR l = false := by
          unfold allR
          rw [List.all_eq_false]
          refine ⟨l[k], List.getElem_mem hlt, ?_⟩
          rw [← HG.out, ← HF.out]
          decide
        rw [hA, decide_eq_true (by omega)]
        rfl
    · have hk1 : decide ((k : Int) < (l.length : Int)) = false := decide_eq_false (by omega)
      go_wp2_with fail
      go_ret
      refine ⟨-1, rfl, ?_, HB.out⟩
      have hA : allR l = true := by
        unfold allR
        rw [List.all_eq_true]
        intro x hx
        obtain ⟨j, hj, rfl⟩ := List.getElem_of_mem hx
        exact HP.out j hj (by omega)
      rw [hA]
      rfl
set_option maxRecDepth 100000 in
theorem contains_wrong (v : Value) (l : List Fd) (w : World) (h : Flds w v l) (hl : l.length ≤ 1000000) (hs : ∀ g ∈ l, g.1.size ≤ 1000000 ∧ g.2.size ≤ 1000000) :
    Calls Tryz.prog 41 #[v, .func (.func 73) #[] #[]] w fun e w' => e = .returned (.bool (!allR l)) ∧ Below w.heap.size w w' := by
  have HI := Lib.hid (index_wrong v l w h hl hs)
  obtain ⟨A, hA⟩ : ∃ A, A = !allR l := ⟨_, rfl⟩
  rw [← hA] at HI ⊢
  clear hA h hl hs
  go_enter Tryz.func41, Tryz.ntmps41
  go_wp2_with (go_at_call 88; refine HI.out.mono ?_; rintro e1 w1 ⟨z, rfl, hz, hb1⟩; have HZ := Lib.hid hz; have HB1 := Lib.hid hb1; clear hz hb1)
  go_ret
  refine ⟨?_, HB1.out⟩
  rw [← HZ.out]
  rfl
/-- Is it a request's first line; a response's. -/
def reqR (m t : ByteArray) (n : Int) (r : ByteArray) : Bool := tokL m.data.toList && (visL t.data.toList && (n == 0 && r.toList.isEmpty))
def rspR (m t : ByteArray) (n : Int) (r : ByteArray) : Bool := m.toList.isEmpty && (t.toList.isEmpty && (decide (100 ≤ n) && (decide (n ≤ 599) && valL r.data.toList)))
set_option maxRecDepth 100000 in
set_option maxHeartbeats 2000000 in
theorem request_is (m t r : ByteArray) (k n : Int) (f : Value) (hm : m.size ≤ 1000000) (ht : t.size ≤ 1000000) (hr : r.size ≤ 1000000) (w : World) :
    Calls Tryz.prog 74 #[.agg #[.string m, .string t, .int .i64 k, .int .i64 n, .string r, f]] w fun e w' => e = .returned (.bool (reqR m t n r)) ∧ Below w.heap.size w w' := by
  have H1 := Lib.hid (fun (W : World) => token_any m (by omega) W)
  have H2 := Lib.hid (fun (W : World) => visible_any t (by omega) W)
  have KR := Lib.hid (Blk.new w #[.string m, .string t, .int .i64 k, .int .i64 n, .string r, f] 24)
  obtain ⟨p1, h1⟩ : ∃ p, p = tokL m.data.toList := ⟨_, rfl⟩
  obtain ⟨p2, h2⟩ : ∃ p, p = visL t.data.toList := ⟨_, rfl⟩
  have HR : Hid (reqR m t n r = (p1 && (p2 && (n == 0 && r.toList.isEmpty)))) := by show _ = _; unfold reqR; rw [h1, h2]
  rw [← h1] at H1
  rw [← h2] at H2
  clear h1 h2 hm ht hr
  cases p1 with
  | false =>
    go_enter Tryz.func74, Tryz.ntmps74
    go_wp2_with (go_at_call 89; refine (H1.out _).mono ?_; rintro e1 w1 ⟨rfl, hb1⟩; have HB1 := Lib.hid (below_one hb1); clear hb1)
    go_ret
    exact ⟨by rw [HR.out]; rfl, HB1.out⟩
  | true =>
    cases p2 with
    | false =>
      go_enter Tryz.func74, Tryz.ntmps74
      go_wp2_with (first | (go_at_call 89; refine (H1.out _).mono ?_; rintro e1 w1 ⟨rfl, hb1⟩; have HB1 := Lib.hid (below_one hb1); have K1 := Lib.hid (KR.out.call hb1); have x1 := K1.out.cell 1; have x3 := K1.out.cell 3; have x4 := K1.out.cell 4; simp at x1 x3 x4; clear hb1) | (go_at_call 116; refine (H2.out _).mono ?_; rintro e2 w2 ⟨rfl, hb2⟩; have HB2 := Lib.hid (HB1.out.trans (hb2.mono HB1.out.size)); clear hb2))
      go_ret
      exact ⟨by rw [HR.out]; rfl, HB2.out⟩
    | true =>
      cases h3 : (n == 0)
      all_goals
        cases h4 : r.toList.isEmpty
        all_goals
          go_enter Tryz.func74, Tryz.ntmps74
          go_wp2_with (first | (go_at_call 89; refine (H1.out _).mono ?_; rintro e1 w1 ⟨rfl, hb1⟩; have HB1 := Lib.hid (below_one hb1); have K1 := Lib.hid (KR.out.call hb1); have x1 := K1.out.cell 1; simp at x1; clear hb1) | (go_at_call 116; refine (H2.out _).mono ?_; rintro e2 w2 ⟨rfl, hb2⟩; have HB2 := Lib.hid (HB1.out.trans (hb2.mono HB1.out.size)); have K2 := Lib.hid (K1.out.call hb2); have y3 := K2.out.cell 3; have y4 := K2.out.cell 4; simp at y3 y4; clear hb2))
          go_ret
          exact ⟨by rw [HR.out, h3, h4]; rfl, HB2.out⟩
set_option maxRecDepth 100000 in
set_option maxHeartbeats 2000000 in
theorem response_is (m t r : ByteArray) (k n : Int) (f : Value) (hm : m.size ≤ 1000000) (ht : t.size ≤ 1000000) (hr : r.size ≤ 1000000) (w : World) :
    Calls Tryz.prog 75 #[.agg #[.string m, .string t, .int .i64 k, .int .i64 n, .string r, f]] w fun e w' => e = .returned (.bool (rspR m t n r)) ∧ Below w.heap.size w w' := by
  have H1 := Lib.hid (fun (W : World) => value_any r (by omega) W)
  have HB0 := Lib.hid ((Below.refl w.heap.size w).alloc (Nat.le_refl _) (.cells #[.string m, .string t, .int .i64 k, .int .i64 n, .string r, f] 24))
  obtain ⟨p5, h5⟩ : ∃ p, p = valL r.data.toList := ⟨_, rfl⟩
  have HR : Hid (rspR m t n r = (m.toList.isEmpty && (t.toList.isEmpty && (decide (100 ≤ n) && (decide (n ≤ 599) && p5))))) := by show _ = _; unfold rspR; rw [h5]
  rw [← h5] at H1
  clear h5 hm ht hr
  have hc : m.toList.isEmpty = false ∨ (m.toList.isEmpty = true ∧ (t.toList.isEmpty = false ∨ (t.toList.isEmpty = true ∧ (decide (100 ≤ n) = false ∨ (decide (100 ≤ n) = true ∧ (decide (n ≤ 599) = false ∨ decide (n ≤ 599) = true)))))) := by
    cases m.toList.isEmpty <;> cases t.toList.isEmpty <;> cases decide (100 ≤ n) <;> cases decide (n ≤ 599) <;> simp
  rcases hc with e1 | ⟨e1, e2 | ⟨e2, e3 | ⟨e3, e4 | e4⟩⟩⟩
  all_goals
    go_enter Tryz.func75, Tryz.ntmps75
    go_wp2_with (go_at_call 90; refine (H1.out _).mono ?_; rintro x1 w1 ⟨rfl, hb1⟩; have HB1 := Lib.hid (below_one hb1); clear hb1)
    go_ret
    first
      | exact ⟨by rw [HR.out, e1]; rfl, HB0.out⟩
      | exact ⟨by rw [HR.out, e1, e2]; rfl, HB0.out⟩
      | exact ⟨by rw [HR.out, e1, e2, e3]; rfl, HB0.out⟩
      | exact ⟨by rw [HR.out, e1, e2, e3, e4]; rfl, HB0.out⟩
      | exact ⟨by rw [HR.out, e1, e2, e3, e4]; rfl, HB1.out⟩
/-- Is a head right? -/
def rightP (m t : ByteArray) (k n : Int) (r : ByteArray) (l : List Fd) : Bool := (reqR m t n r || rspR m t n r) && ((k == 0 || k == 1) && allR l)
set_option maxRecDepth 100000 in
set_option maxHeartbeats 4000000 in
theorem hright_any (m t r : ByteArray) (k n : Int) (f : Value) (l : List Fd) (hm : m.size ≤ 1000000) (ht : t.size ≤ 1000000) (hr : r.size ≤ 1000000) (w : World) (h : Flds w f l) (hl : l.length ≤ 1000000) (hs : ∀ g ∈ l, g.1.size ≤ 1000000 ∧ g.2.size ≤ 1000000) :
    Calls Tryz.prog 30 #[.agg #[.string m, .string t, .int .i64 k, .int .i64 n, .string r, f]] w fun e w' => e = .returned (.bool (rightP m t k n r l)) ∧ Below w.heap.size w w' := by
  have H1 := Lib.hid (fun (W : World) => request_is m t r k n f hm ht hr W)
  have H2 := Lib.hid (fun (W : World) => response_is m t r k n f hm ht hr W)
  have H3 := Lib.hid (fun (W : World) (hW : Below w.heap.size w W) => contains_wrong f l W (h.below hW) hl hs)
  have KR := Lib.hid (Blk.new w #[.string m, .string t, .int .i64 k, .int .i64 n, .string r, f] 24)
  obtain ⟨p1, h1⟩ : ∃ p, p = reqR m t n r := ⟨_, rfl⟩
  obtain ⟨p2, h2⟩ : ∃ p, p = rspR m t n r := ⟨_, rfl⟩
  obtain ⟨p5, h5⟩ : ∃ p, p = allR l := ⟨_, rfl⟩
  have HR : Hid (rightP m t k n r l = ((p1 || p2) && ((k == 0 || k == 1) && p5))) := by show _ = _; unfold rightP; rw [h1, h2, h5]
  rw [← h1] at H1
  rw [← h2] at H2
  rw [← h5] at H3
  clear h1 h2 h5 hm ht hr h hl hs
  have hc : ((k == 0) = true) ∨ ((k == 0) = false ∧ (k == 1) = true) ∨ ((k == 0) = false ∧ (k == 1) = false) := by cases (k == 0) <;> cases (k == 1) <;> simp
  cases p1 <;> cases p2
  all_goals
    rcases hc with e1 | ⟨e1, e2⟩ | ⟨e1, e2⟩
    all_goals
      go_enter Tryz.func30, Tryz.ntmps30
      go_wp2_with (first
        | (go_at_call 74; refine (H1.out _).mono ?_; rintro x1 w1 ⟨rfl, hb1⟩; have HB := Lib.hid (below_one hb1); have K1 := Lib.hid (KR.out.call hb1); have x0 := K1.out.cell 0; have x1 := K1.out.cell 1; have x2 := K1.out.cell 2; have x3 := K1.out.cell 3; have x4 := K1.out.cell 4; have x5 := K1.out.cell 5; simp at x0 x1 x2 x3 x4 x5; clear hb1)
        | (go_at_call 75; refine (H2.out _).mono ?_; rintro x2 w2 ⟨rfl, hb2⟩; have HB := Lib.hid (HB.out.trans (hb2.mono HB.out.size)); have K2 := Lib.hid (K1.out.call hb2); clear x0 x1 x2 x3 x4 x5; have y0 := K2.out.cell 0; have y1 := K2.out.cell 1; have y2 := K2.out.cell 2; have y3 := K2.out.cell 3; have y4 := K2.out.cell 4; have y5 := K2.out.cell 5; simp at y0 y1 y2 y3 y4 y5; clear hb2)
        | (go_at_call 41; refine (H3.out _ HB.out).mono ?_; rintro x3 w3 ⟨rfl, hb3⟩; have HB := Lib.hid (HB.out.trans (hb3.mono HB.out.size)); clear hb3))
      go_ret
      refine ⟨?_, HB.out⟩
      rw [HR.out]
      cases p5 <;> simp_all
theorem right_ref (m t : ByteArray) (k n : Int) (r : ByteArray) (l : List Fd) : rightP m t k n r l = (((k == 0 || k == 1) && (if m.toList.isEmpty = true then (t.toList.isEmpty && (decide (100 ≤ n) && (decide (n ≤ 599) && valL r.data.toList))) else (tokL m.data.toList && (visL t.data.toList && (n == 0 && r.toList.isEmpty))))) && allR l) := by
  unfold rightP reqR rspR
  cases hm : m.toList.isEmpty with
  | true =>
    have h1 : tokL m.data.toList = false := by
      rw [isEmpty_list] at hm
      unfold tokL
      rw [hm]
      rfl
    rw [h1]
    cases (k == 0 || k == 1) <;> simp
  | false => cases (k == 0 || k == 1) <;> simp
set_option maxRecDepth 100000 in
set_option maxHeartbeats 4000000 in
theorem rright_any (m t r : ByteArray) (k n : Int) (f : Value) (l : List Fd) (hm : m.size ≤ 1000000) (ht : t.size ≤ 1000000) (hr : r.size ≤ 1000000) (w : World) (h : Flds w f l) (hl : l.length ≤ 1000000) (hs : ∀ g ∈ l, g.1.size ≤ 1000 ∧ g.2.size ≤ 1000) :
    Calls Tryz.prog 28 #[.agg #[.string m, .string t, .int .i64 k, .int .i64 n, .string r, f]] w fun e w' => e = .returned (.bool (rightP m t k n r l)) ∧ Below w.heap.size w w' := by
  obtain ⟨p, c, rfl, hcl⟩ := h
  have H1 := Lib.hid (fun (W : World) => rtoken_any m (by omega) W)
  have H2 := Lib.hid (fun (W : World) => rvisible_any t (by omega) W)
  have H3 := Lib.hid (fun (W : World) => rvalue_any r (by omega) W)
  have KR := Lib.hid (Blk.new w #[.string m, .string t, .int .i64 k, .int .i64 n, .string r, .slice p l.length c] 24)
  have HB0 := Lib.hid ((Below.refl w.heap.size w).alloc (Nat.le_refl _) (.cells #[.string m, .string t, .int .i64 k, .int .i64 n, .string r, .slice p l.length c] 24))
  obtain ⟨p1, h1⟩ : ∃ p, p = tokL m.data.toList := ⟨_, rfl⟩
  obtain ⟨p2, h2⟩ : ∃ p, p = visL t.data.toList := ⟨_, rfl⟩
  obtain ⟨p3, h3⟩ : ∃ p, p = valL r.data.toList := ⟨_, rfl⟩
  obtain ⟨ok, hok⟩ : ∃ b, b = ((k == 0 || k == 1) && (if m.toList.isEmpty = true then (t.toList.isEmpty && (decide (100 ≤ n) && (decide (n ≤ 599) && p3))) else (p1 && (p2 && (n == 0 && r.toList.isEmpty))))) := ⟨_, rfl⟩
  have HR : Hid (rightP m t k n r l = (ok && allR l)) := by show _ = _; rw [right_ref, hok, h1, h2, h3]
  rw [← h1] at H1
  rw [← h2] at H2
  rw [← h3] at H3
  have HC := Lib.hid hcl
  have HS := Lib.hid hs
  have HOK := Lib.hid hok
  clear h1 h2 h3 hok hm ht hr hs hcl
  -- the loop over the fields
  have HLOOP : Hid True := trivial
  have hc : ((k == 0) = true) ∨ ((k == 0) = false ∧ (k == 1) = true) ∨ ((k == 0) = false ∧ (k == 1) = false) := by cases (k == 0) <;> cases (k == 1) <;> simp
  have hc2 : (m.toList.isEmpty = true ∧ (t.toList.isEmpty = false ∨ (t.toList.isEmpty = true ∧ (decide (100 ≤ n) = false ∨ (decide (100 ≤ n) = true ∧ (decide (n ≤ 599) = false ∨ decide (n ≤ 599) = true)))))) ∨ (m.toList.isEmpty = false ∧ (p1 = false ∨ (p1 = true ∧ (p2 = false ∨ (p2 = true ∧ ((n == 0) = false ∨ (n == 0) = true)))))) := by
    cases m.toList.isEmpty <;> cases t.toList.isEmpty <;> cases decide (100 ≤ n) <;> cases decide (n ≤ 599) <;> cases p1 <;> cases p2 <;> cases (n == 0) <;> simp
  have HFR : Hid (∀ (W : World) (i : Nat) (hi : i < l.length), Calls Tryz.prog 69 #[.agg #[.string l[i].1, .string l[i].2]] W fun e w' => e = .returned (.bool (fieldR l[i].1 l[i].2)) ∧ Below W.heap.size W w') := fun W i hi => rfright_any _ _ (by have := (HS.out l[i] (List.getElem_mem hi)).1; omega) (by have := (HS.out l[i] (List.getElem_mem hi)).2; omega) W
  rcases hc with e1 | ⟨e1, e2⟩ | ⟨e1, e2⟩
  all_goals
    rcases hc2 with ⟨g1, g2 | ⟨g2, g3 | ⟨g3, g4 | g4⟩⟩⟩ | ⟨g1, g2 | ⟨g2, g3 | ⟨g3, g4 | g4⟩⟩⟩
    all_goals
      try subst g2
      try subst g3
      go_enter Tryz.func28, Tryz.ntmps28
      go_wp2_with (first
        | (go_at_call 66; refine (H1.out _).mono ?_; rintro x1 w1 ⟨rfl, h1⟩; subst h1)
        | (go_at_call 67; refine (H2.out _).mono ?_; rintro x1 w1 ⟨rfl, h1⟩; subst h1)
        | (go_at_call 68; refine (H3.out _).mono ?_; rintro x1 w1 ⟨rfl, h1⟩; subst h1))
      go_loopw [3, 4] (fun u3 u4 wr => ∃ (i : Nat) (b0 : Bool), i ≤ l.length ∧ u4 = .int .i64 i ∧ u3 = .bool b0 ∧ b0 = (ok && allR (l.take i)) ∧ Blk wr w.heap.size #[.string m, .string t, .int .i64 k, .int .i64 n, .string r, .slice p l.length c] 24 ∧ Below w.heap.size w wr) (fun _ u4 _ => l.length - (intOf u4).toNat)
      case atStart => exact ⟨0, _, Nat.zero_le _, rfl, rfl, by rw [HOK.out]; simp_all [allR] <;> (intros; exfalso; omega), KR.out, HB0.out⟩
      case round =>
        obtain ⟨i, b0, hi, rfl, rfl, hb0, hkr, hbel⟩ := hrel
        have H0 := Lib.hid hb0
        have HKR := Lib.hid hkr
        have HB := Lib.hid hbel
        have x5 : wr.cell? ⟨w.heap.size, 5, none⟩ = some (.slice p l.length c) := hkr.cell 5
        clear hb0 hkr hbel
        by_cases hlt : i < l.length
        · have hk1 : decide ((i : Int) < (l.length : Int)) = true := decide_eq_true (by omega)
          obtain ⟨b, off, hp, c0, c1⟩ := HC.out i hlt
          subst hp
          have q0 := (bcell HB.out b _ (World.block_lt_of_cell? _ _ c0)).trans c0
          have q1 := (bcell HB.out b _ (World.block_lt_of_cell? _ _ c1)).trans c1
          have HF := Lib.hid (fun (W : World) => HFR.out W i hlt)
          obtain ⟨⟨fn, fv⟩, hg⟩ : ∃ g, g = l[i] := ⟨_, rfl⟩
          rw [← hg] at q0 q1 HF
          have hoff : off + i * 2 = off + 2 * i := by omega
          have hoff1 : off + i * 2 + 1 = off + 2 * i + 1 := by omega
          rw [← hoff] at q0
          rw [← hoff1] at q1
          obtain ⟨F, hF⟩ : ∃ F, F = fieldR fn fv := ⟨_, rfl⟩
          simp only at q0 q1 HF
          rw [← hF] at HF
          have hst : allR (l.take (i + 1)) = (allR (l.take i) && F) := by
            rw [List.take_succ_eq_append_getElem hlt, ← hg]
            unfold allR
            rw [List.all_append, hF]
            simp
          have HST := Lib.hid hst
          clear hg c0 c1 hoff hoff1 hF hst
          cases b0 with
          | false =>
            go_wp2_with fail
            go_roundw
            case rel => exact ⟨i + 1, false, hlt, by go_num, rfl, by rw [HST.out, ← Bool.and_assoc, ← H0.out]; rfl, HKR.out, HB.out⟩
            case measure => simp [intOf]; omega
          | true =>
            go_wp2_with (go_at_call 69; refine (HF.out _).mono ?_; rintro y1 w2 ⟨rfl, hb2⟩; have HB2 := Lib.hid hb2; clear hb2)
            go_roundw
            case rel => exact ⟨i + 1, F, hlt, by go_num, rfl, by rw [HST.out, ← Bool.and_assoc, ← H0.out]; simp, HKR.out.call HB2.out, HB.out.trans (HB2.out.mono HB.out.size)⟩
            case measure => simp [intOf]; omega
        · have hk1 : decide ((i : Int) < (l.length : Int)) = false := decide_eq_false (by omega)
          have hfin : b0 = (ok && allR l) := by rw [H0.out, List.take_of_length_le (by omega)]
          have HFI := Lib.hid hfin
          clear hfin
          go_wp2_with fail
          go_ret
          exact ⟨by rw [HR.out, ← HFI.out]; rfl, HB.out⟩
end Go.Proofs.YtcpjkemjpgggcaaGreatDoor
-- RwA
namespace Go.Proofs.YtcpjkemjpgggcaaGreatDoor
open Go.RowKit Civ
/-- The program's Print of a time. -/
def PrintsI (s : Int) (T : ByteArray) : Prop :=
  ∀ W : World, Calls Tryz.prog 65 #[.int .i64 s] W fun e w' => e = .returned (.string T) ∧ Below W.heap.size W w'
/-- What a date's text is made of. -/
def dtc (b : UInt8) : Bool := decide (32 ≤ b.toNat ∧ b.toNat ≤ 126)
def DateT (T : ByteArray) : Prop := T.size ≤ 1000 ∧ (T.toList.isEmpty = true ∨ (T.data.toList.all dtc = true ∧ (∀ b, T.data.toList.head? = some b → blL b = false) ∧ ∀ b, T.data.toList.getLast? = some b → blL b = false))
theorem dtc_value {b : UInt8} (h : dtc b = true) : valueB b.toNat = true := by
  have h1 := of_decide_eq_true h
  unfold valueB
  rw [Bool.or_eq_true, decide_eq_true_eq, decide_eq_true_eq]
  omega
theorem dtc_dig {b : UInt8} {d : Nat} (hd : d < 10) (h : b.toNat = 48 + d) : dtc b = true := decide_eq_true (by omega)
theorem padB_dtc {n wide : Int} (h : 0 ≤ n) : (padB n wide).data.toList.all dtc = true := by
  unfold padB textB
  rw [if_neg (by omega), if_neg (by omega)]
  rw [ByteArray.data_append, Array.toList_append, List.all_append, Bool.and_eq_true]
  constructor
  · rw [List.all_eq_true]
    intro b hb
    unfold zerosB at hb
    have hb : b ∈ List.replicate _ (48 : UInt8) := hb
    rw [(List.mem_replicate.1 hb).2]
    decide
  · rw [List.all_eq_true]
    intro b hb
    have hb : b ∈ figL 10 n.natAbs := hb
    obtain ⟨d, hd, he⟩ := figL_dig _ b hb
    exact dtc_dig hd he
theorem all_app (a b : ByteArray) : (a ++ b).data.toList.all dtc = (a.data.toList.all dtc && b.data.toList.all dtc) := by
  rw [ByteArray.data_append, Array.toList_append, List.all_append]
theorem clockB_dtc {r : Int} (h : 0 ≤ r) : (clockB r).data.toList.all dtc = true := by
  unfold clockB
  rw [all_app, all_app, all_app, all_app, padB_dtc (by omega), padB_dtc (by omega), padB_dtc (by omega)]
  decide
theorem dayB_dtc {k : Nat} (h : k ≤ 6) : ((dayB k).extract 0 3).data.toList.all dtc = true ∧ ∃ c l, ((dayB k).extract 0 3).data.toList = c :: l ∧ blL c = false := by
  obtain rfl | rfl | rfl | rfl | rfl | rfl | rfl : k = 0 ∨ k = 1 ∨ k = 2 ∨ k = 3 ∨ k = 4 ∨ k = 5 ∨ k = 6 := by omega
  all_goals exact ⟨by decide +kernel, _, _, rfl, by decide +kernel⟩
theorem monB_dtc {k : Nat} (h : k ≤ 11) : (monB k).data.toList.all dtc = true := by
  obtain rfl | rfl | rfl | rfl | rfl | rfl | rfl | rfl | rfl | rfl | rfl | rfl : k = 0 ∨ k = 1 ∨ k = 2 ∨ k = 3 ∨ k = 4 ∨ k = 5 ∨ k = 6 ∨ k = 7 ∨ k = 8 ∨ k = 9 ∨ k = 10 ∨ k = 11 := by omega
  all_goals decide +kernel
theorem dateT_mk {n y m d : Int} {k j : Nat} {r : Int} (hd : IsDate n y m d) (hk : weekD n = k) (hj : m = (j : Int) + 1) (hr : 0 ≤ r) (hr2 : r < 86400) : DateT (dateB k j y d r) := by
  have hk6 : k ≤ 6 := by unfold weekD at hk; omega
  have hm := hd.m1
  have hm2 := hd.m2
  have hd1 := hd.d1
  have hy := hd.y1
  have hj11 : j ≤ 11 := by omega
  obtain ⟨a1, c, l, ec, hc⟩ := dayB_dtc hk6
  refine ⟨?_, Or.inr ⟨?_, ?_, ?_⟩⟩
  · have z1 := pad_size d 2 (by omega) (by have h1 := hd.d2; have h2 := (longM_range y m hm hm2).2; omega)
    have z2 := pad_size y 4 (by omega) (by have := hd.y2; omega)
    have z3 := clockB_size r hr hr2
    have z4 := monB_size hj11
    have z5 : ((dayB k).extract 0 3).size ≤ 3 := by rw [ByteArray.size_extract]; omega
    unfold dateB
    simp only [ByteArray.size_append]
    have e1 : (⟨#[44, 32]⟩ : ByteArray).size = 2 := rfl
    have e2 : (⟨#[32]⟩ : ByteArray).size = 1 := rfl
    have e3 : (⟨#[32, 71, 77, 84]⟩ : ByteArray).size = 4 := rfl
    omega
  · unfold dateB
    rw [all_app, all_app, all_app, all_app, all_app, all_app, all_app, all_app, all_app, a1, padB_dtc (by omega), monB_dtc hj11, padB_dtc (by omega), clockB_dtc hr]
    decide
  · intro b hb
    unfold dateB at hb
    simp only [ByteArray.data_append, Array.toList_append, ec] at hb
    rw [List.cons_append, List.cons_append, List.cons_append, List.cons_append, List.cons_append, List.cons_append, List.cons_append, List.cons_append, List.cons_append, List.head?_cons] at hb
    cases hb
    exact hc
  · intro b hb
    unfold dateB at hb
    rw [ByteArray.data_append, Array.toList_append] at hb
    rw [show (⟨#[32, 71, 77, 84]⟩ : ByteArray).data.toList = [32, 71, 77] ++ [84] from rfl, ← List.append_assoc, List.getLast?_concat] at hb
    cases hb
    decide
theorem printsI_at {s n y m d r : Int} (hd : IsDate n y m d) (hs : s = n * 86400 + r) (hr : 0 ≤ r) (hr2 : r < 86400) : PrintsI s (dateB (weekD n).toNat (m - 1).toNat y d r) ∧ DateT (dateB (weekD n).toNat (m - 1).toNat y d r) := by
  have hk : weekD n = ((weekD n).toNat : Int) := by unfold weekD; omega
  have hj : m = (((m - 1).toNat : Nat) : Int) + 1 := by have := hd.m1; omega
  refine ⟨?_, dateT_mk hd hk hj hr hr2⟩
  by_cases h0 : 0 ≤ s
  · exact print_any s r _ _ hd hr hr2 hk hj (fun W => date_late hd hs hr hr2 h0 W)
  · by_cases h1 : r = 0
    · exact print_any s r _ _ hd hr hr2 hk hj (fun W => date_exact hd hs h1 hr2 (by omega) W)
    · exact print_any s r _ _ hd hr hr2 hk hj (fun W => date_early hd hs (by omega) hr2 (by omega) W)
theorem dateT_nil : DateT ⟨#[]⟩ := ⟨by decide, Or.inl (by decide +kernel)⟩
theorem printsI_any (s : Int) (h : -9223372036854775808 ≤ s) (h' : s ≤ 9223372036854775807) : ∃ T, PrintsI s T ∧ DateT T := by
  by_cases h1 : s < -62135596800
  · by_cases hm : s.tmod 86400 = 0
    · exact ⟨_, print_none s (fun W => date_below0 h1 h hm W), dateT_nil⟩
    · exact ⟨_, print_none s (fun W => date_below1 h1 h hm W), dateT_nil⟩
  · by_cases h2 : 253402300800 ≤ s
    · exact ⟨_, print_none s (fun W => date_above h2 h' W), dateT_nil⟩
    · obtain ⟨y, m, d, hd⟩ := date_of (s / 86400) (by omega) (by omega)
      exact ⟨_, printsI_at (r := s % 86400) hd (by omega) (by omega) (by omega)⟩
theorem headI_any (st minor now : Int) (h1 : -9223372036854775808 ≤ minor) (h2 : minor ≤ 9223372036854775807) {T : ByteArray} (hP : PrintsI now T) (w : World) :
    Calls Tryz.prog 27 #[.int .i64 st, .int .i64 minor, .int .i64 now] w fun e w' => ∃ f, e = .returned (.agg #[.string ⟨#[]⟩, .string ⟨#[]⟩, .int .i64 (verN minor), .int .i64 st, .string (reasonS st), f]) ∧ Flds w' f (hdL T) ∧ Below w.heap.size w w' := by
  cases hT : T.toList.isEmpty
  · exact head_some st minor now T h1 h2 hT hP w
  · exact head_none st minor now T h1 h2 hT hP w
theorem hdL_lenI (T : ByteArray) : (hdL T).length ≤ 3 := by unfold hdL; split <;> simp
theorem isDate0I : IsDate 0 1970 1 1 := ⟨by decide, by decide, by decide, by decide, by decide, by decide, by decide⟩
theorem bad_reqI : reasonS 400 = ⟨#[66, 97, 100, 32, 82, 101, 113, 117, 101, 115, 116]⟩ := by decide +kernel
set_option maxRecDepth 100000 in
theorem lives33I (w : World) : Calls Tryz.prog 32 #[] w fun e w' => e = .returned (.bool true) ∧ Below w.heap.size w w' := by
  have hp : PrintsI 0 (dateB (weekD 0).toNat (1 - 1 : Int).toNat 1970 1 0) := (printsI_at isDate0I (by decide) (by decide) (by decide)).1
  obtain ⟨T, hT⟩ : ∃ T, T = dateB (weekD 0).toNat (1 - 1 : Int).toNat 1970 1 0 := ⟨_, rfl⟩
  have hTe : T.toList.isEmpty = false := by rw [hT]; exact dateB_some _ _ _ _ _
  rw [← hT] at hp
  have hl : (hdL T).length = 3 := by unfold hdL; rw [hTe]; rfl
  have HH : Hid (∀ W, Calls Tryz.prog 27 #[.int .i64 400, .int .i64 1, .int .i64 0] W fun e w' => ∃ p c, e = .returned (.agg #[.string ⟨#[]⟩, .string ⟨#[]⟩, .int .i64 1, .int .i64 400, .string ⟨#[66, 97, 100, 32, 82, 101, 113, 117, 101, 115, 116]⟩, .slice p 3 c]) ∧ Below W.heap.size W w') := fun W => (headI_any 400 1 0 (by decide) (by decide) hp W).mono fun e w' ⟨f, he, hf, hb⟩ => by
    obtain ⟨p, c, hfe, _⟩ := hf
    rw [hl] at hfe
    subst hfe
    exact ⟨p, c, by rw [he, bad_reqI]; rfl, hb⟩
  have HA := Lib.hid (fun W => refstat_any 1 4 W)
  have HO := Lib.hid (fun W => refstat_any 2 19 W)
  have ea : statB 1 4 = 431 := by decide
  have eo : statB 2 19 = 502 := by decide
  rw [ea] at HA
  rw [eo] at HO
  clear hp hT hTe hl ea eo
  go_enter Tryz.func32, Tryz.ntmps32
  go_wp2_with (go_at_call 27; refine (HH.out _).mono ?_)
  rintro e w1 ⟨p, c, rfl, hb⟩
  have B1 := Lib.hid hb
  clear hb
  go_wp2_with (go_at_call 26; refine (HA.out _).mono ?_)
  rintro e2 w2 ⟨rfl, hb⟩
  have B2 := Lib.hid hb
  clear hb
  go_wp2_with fail
  refine (HO.out _).mono ?_
  rintro e3 w3 ⟨rfl, hb⟩
  have K3 := Lib.hid (((Blk.new w1 _ _).call B2.out).call hb)
  have B3 := Lib.hid (((B1.out.alloc B1.out.size _).trans (B2.out.mono (by have := B1.out.size; simp; omega))).trans (hb.mono (by have h1 := B1.out.size; have h2 := B2.out.size; simp at h2; omega)))
  clear hb
  have c4 := K3.out.cell 4
  have c5 := K3.out.cell 5
  simp at c4 c5
  go_wp2_with fail
  go_ret
  exact ⟨rfl, B3.out⟩
/-- What a refusal's head is: its fields. -/
theorem hdL_right {T : ByteArray} (h : DateT T) : allR (hdL T) = true ∧ ∀ g ∈ hdL T, g.1.size ≤ 1000 ∧ g.2.size ≤ 1000 := by
  obtain ⟨hz, h⟩ := h
  unfold hdL
  cases hT : T.toList.isEmpty
  · rcases h with h | ⟨h1, h2, h3⟩
    · rw [hT] at h; cases h
    · have hv : valL T.data.toList = true := by
        unfold valL
        rw [List.all_eq_true]
        intro b hb
        exact dtc_value (List.all_eq_true.1 h1 b hb)
      have ht : (trimB T).toList == T.toList := by
        have : trimB T = T := by
          unfold trimB
          rw [trim_id h2 h3]
        rw [this]
        exact beq_self_eq_true _
      have hf : fieldR ⟨#[68, 97, 116, 101]⟩ T = true := by
        unfold fieldR
        rw [hv, ht]
        decide +kernel
      rw [if_neg (by simp)]
      constructor
      · unfold allR
        rw [List.all_append, List.all_cons, List.all_nil, hf]
        decide +kernel
      · intro g hg
        simp only [List.cons_append, List.nil_append, List.mem_cons, List.not_mem_nil, or_false] at hg
        rcases hg with rfl | rfl | rfl
        · exact ⟨by show (⟨#[68, 97, 116, 101]⟩ : ByteArray).size ≤ 1000; decide, hz⟩
        · exact ⟨by decide, by decide⟩
        · exact ⟨by decide, by decide⟩
  · rw [if_pos rfl, List.nil_append]
    constructor
    · decide +kernel
    · intro g hg
      simp only [List.mem_cons, List.not_mem_nil, or_false] at hg
      rcases hg with rfl | rfl
      · exact ⟨by decide, by decide⟩
      · exact ⟨by decide, by decide⟩
theorem allB_app (a b : List Fd) (n : ByteArray) : allB (a ++ b) n = allB a n ++ allB b n := by
  unfold allB
  rw [List.filter_append, List.map_append]
theorem hdL_all (T : ByteArray) {n : ByteArray} (h : lowB ⟨#[68, 97, 116, 101]⟩ ≠ lowB n) : allB (hdL T) n = allB [(⟨#[67, 111, 110, 116, 101, 110, 116, 45, 76, 101, 110, 103, 116, 104]⟩, ⟨#[48]⟩), (⟨#[67, 111, 110, 110, 101, 99, 116, 105, 111, 110]⟩, ⟨#[99, 108, 111, 115, 101]⟩)] n := by
  unfold hdL
  rw [allB_app]
  split
  · rfl
  · have : allB [((⟨#[68, 97, 116, 101]⟩ : ByteArray), T)] n = [] := by
      unfold allB
      rw [List.filter_cons, if_neg (by simpa using h)]
      rfl
    rw [this, List.nil_append]
theorem resp_ref (T : ByteArray) (k : Int) {s : Int} (hs1 : 400 ≤ s) (hs2 : s ≤ 599) : respP (hdL T) k s ⟨#[71, 69, 84]⟩ = (1, 0, 0) := by
  have e1 : allB (hdL T) teB = [] := by rw [hdL_all T (by decide +kernel)]; decide +kernel
  have e2 : allB (hdL T) clB = [⟨#[48]⟩] := by rw [hdL_all T (by decide +kernel)]; decide +kernel
  have b : bodilessP s ⟨#[71, 69, 84]⟩ = false := by
    unfold bodilessP
    rw [show decide ((⟨#[71, 69, 84]⟩ : ByteArray) = ⟨#[72, 69, 65, 68]⟩) = false from by decide, decide_eq_false (show ¬ (100 ≤ s ∧ s ≤ 199) by omega), decide_eq_false (show ¬ s = 204 by omega), decide_eq_false (show ¬ s = 304 by omega)]
    rfl
  have c1 : codP (hdL T) = codP [] := by unfold codP; rw [e1]; rfl
  have c2 : lenP (hdL T) = some 0 := by unfold lenP; rw [e2]; decide +kernel
  have c3 : codP [] = (false, 0) := by decide +kernel
  have sd : saidP (hdL T) k = (1, 0, 0) := by
    unfold saidP
    rw [c1, c2, c3]
    rfl
  unfold respP
  rw [sd, b]
  rfl
theorem stat_in (side e : Int) : statB side e = 408 ∨ statB side e = 413 ∨ statB side e = 417 ∨ statB side e = 431 ∨ statB side e = 501 ∨ statB side e = 505 ∨ statB side e = 508 ∨ statB side e = 400 ∨ statB side e = 504 ∨ statB side e = 502 := by
  unfold statB errStat
  split
  · repeat (split; · simp)
    simp
  · split <;> simp
theorem stat_reason {s : Int} (h : s = 408 ∨ s = 413 ∨ s = 417 ∨ s = 431 ∨ s = 501 ∨ s = 505 ∨ s = 508 ∨ s = 400 ∨ s = 504 ∨ s = 502) : 400 ≤ s ∧ s ≤ 599 ∧ (reasonS s).size ≤ 1000 ∧ (reasonS s).toList.isEmpty = false ∧ valL (reasonS s).data.toList = true := by
  rcases h with rfl | rfl | rfl | rfl | rfl | rfl | rfl | rfl | rfl | rfl
  all_goals exact ⟨by decide, by decide, by decide +kernel, by decide +kernel, by decide +kernel⟩
theorem ref_right {T : ByteArray} (h : DateT T) (side e k : Int) : rightP ⟨#[]⟩ ⟨#[]⟩ (verN k) (statB side e) (reasonS (statB side e)) (hdL T) = true := by
  obtain ⟨h1, h2, _, _, h3⟩ := stat_reason (stat_in side e)
  unfold rightP rspR
  have h0 : 100 ≤ statB side e := by omega
  rw [(hdL_right h).1, h3, decide_eq_true h0, decide_eq_true h2]
  unfold verN
  split <;> simp [reqR, tokL]
end Go.Proofs.YtcpjkemjpgggcaaGreatDoor
