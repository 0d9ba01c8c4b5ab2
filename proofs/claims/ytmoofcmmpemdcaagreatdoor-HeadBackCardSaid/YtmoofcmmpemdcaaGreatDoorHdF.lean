/- Few fields; head.Right and the reference's. -/
import Derived.Test.YtmoofcmmpemdcaaGreatDoorHdB
set_option linter.unusedSimpArgs false
set_option linter.unusedVariables false
namespace Go.Proofs.YtmoofcmmpemdcaaGreatDoor
open Go.RowKit
theorem few_spec {l : List Fld} (h : fewF l = true) : l.length ≤ 40 ∧ ∀ g ∈ l, g.1.size ≤ 1000 ∧ g.2.size ≤ 1000 := by
  unfold fewF at h
  rw [Bool.and_eq_true, decide_eq_true_eq, List.all_eq_true] at h
  refine ⟨h.1, fun g hg => ?_⟩
  have := h.2 g hg
  rw [decide_eq_true_eq] at this
  omega
set_option maxRecDepth 100000 in
set_option maxHeartbeats 4000000 in
theorem few_any {w : World} {A : Option Addr} {len cap : Nat} {l : List Fld} (h : Fds w A len l) (hlm : len ≤ 9223372036854775807) :
    Calls Tryz.prog 30 #[.slice A len cap] w fun e w' => e = .returned (.bool (fewF l)) ∧ Below w.heap.size w w' := by
  have hlen := h.1
  have H := Lib.hid h
  clear h
  by_cases h40 : len ≤ 40
  · have d0 : decide ((40 : Int) < len) = false := by rw [decide_eq_false_iff_not]; omega
    go_enter Tryz.func30, Tryz.ntmps30
    go_wp2_with fail
    go_loopw [10] (fun i wr => ∃ k : Nat, k ≤ len ∧ i = .int .i64 k ∧ ((l.take k).all fun f => decide (f.1.size ≤ 100 ∧ f.2.size ≤ 300)) = true ∧ Below w.heap.size w wr) (fun i _ => len - (intOf i).toNat)
    case atStart => exact ⟨0, by omega, rfl, rfl, Below.refl _ _⟩
    case round =>
      obtain ⟨k, hk, rfl, hall, hbel⟩ := hrel
      have HL := Lib.hid hbel
      have HA := Lib.hid hall
      clear hbel hall
      by_cases hlt : k < len
      · obtain ⟨b, off, rfl, hbw, hc⟩ := (H.out.below HL.out).2 (by omega)
        obtain ⟨g, hg⟩ : ∃ g, l[k]? = some g := ⟨l[k]'(by omega), List.getElem?_eq_getElem (by omega)⟩
        obtain ⟨c0, c1⟩ := hc k g hg
        have hge : l[k]'(by omega) = g := by
          rw [List.getElem?_eq_getElem (by omega)] at hg
          exact Option.some.inj hg
        have HM := Lib.hid (List.mem_of_getElem? hg)
        obtain ⟨n, v⟩ := g
        simp only at c0 c1
        have hki : (k : Int) < len := by omega
        have no : ¬ (n.size ≤ 100 ∧ v.size ≤ 300) → Hid (fewF l = false) := fun hx => by
          show fewF l = false
          cases hf : fewF l
          · rfl
          · unfold fewF at hf
            rw [Bool.and_eq_true, List.all_eq_true] at hf
            have := hf.2 _ HM.out
            rw [decide_eq_true_eq] at this
            exact absurd this hx
        have yes : n.size ≤ 100 ∧ v.size ≤ 300 → Hid (((l.take (k + 1)).all fun f => decide (f.1.size ≤ 100 ∧ f.2.size ≤ 300)) = true) := fun hx => by
          show _ = true
          rw [List.take_succ_eq_append_getElem (by omega), List.all_append, HA.out, hge]
          simp only [List.all_cons, List.all_nil, Bool.and_true, Bool.true_and, decide_eq_true_eq]
          exact hx
        by_cases h1 : n.size ≤ 100
        · have e1 : decide ((100 : Int) < n.size) = false := by rw [decide_eq_false_iff_not]; omega
          by_cases h2 : v.size ≤ 300
          · have e2 : decide ((300 : Int) < v.size) = false := by rw [decide_eq_false_iff_not]; omega
            have HY := yes ⟨h1, h2⟩
            clear hc hg hge hbw no yes h1 h2
            go_wp2_with fail
            go_roundw
            case rel => exact ⟨k + 1, by omega, by go_num, HY.out, HL.out.alloc HL.out.size _⟩
            case measure => simp [intOf]; omega
          · have e2 : (300 : Int) < v.size := by omega
            have HY := no (fun h => h2 h.2)
            clear hc hg hge hbw no yes h1 h2
            go_wp2_with fail
            go_ret
            rw [HY.out]
            exact ⟨rfl, HL.out.alloc HL.out.size _⟩
        · have e1 : (100 : Int) < n.size := by omega
          have HY := no (fun h => h1 h.1)
          clear hc hg hge hbw no yes h1
          go_wp2_with fail
          go_ret
          rw [HY.out]
          exact ⟨rfl, HL.out.alloc HL.out.size _⟩
      · obtain rfl : k = len := by omega
        have HY : Hid (fewF l = true) := by
          show fewF l = true
          unfold fewF
          rw [decide_eq_true (by omega)]
          have := HA.out
          rw [List.take_of_length_le (by omega)] at this
          rw [this]; rfl
        go_wp2_with fail
        go_ret
        rw [HY.out]
        exact ⟨rfl, HL.out⟩
  · have d0 : (40 : Int) < len := by omega
    have HY : Hid (fewF l = false) := by show fewF l = false; unfold fewF; rw [decide_eq_false (by omega)]; rfl
    go_enter Tryz.func30, Tryz.ntmps30
    go_wp2_with fail
    go_ret
    rw [HY.out]
    exact ⟨rfl, Below.refl _ _⟩
end Go.Proofs.YtmoofcmmpemdcaaGreatDoor
set_option linter.unusedSimpArgs false
set_option linter.unusedVariables false
namespace Go.Proofs.YtmoofcmmpemdcaaGreatDoor
open Go.RowKit
set_option maxRecDepth 100000 in
theorem wrong_any (n v : ByteArray) (hn : n.size ≤ 9223372036854775807) (hv : v.size ≤ 9223372036854775807) (w : World) : Calls Tryz.prog 58 #[.agg #[.string n, .string v]] w fun e w' => e = .returned (.bool (!fieldR n v)) ∧ Below w.heap.size w w' := by
  have HR := Lib.hid (fun (W : World) => fright_any n v hn hv W)
  obtain ⟨b, hb⟩ : ∃ b, b = fieldR n v := ⟨_, rfl⟩
  rw [← hb] at HR ⊢
  clear hb
  go_enter Tryz.func58, Tryz.ntmps58
  go_wp2_with (go_at_call 59; refine (HR.out _).mono ?_; rintro e1 w1 ⟨rfl, hb1⟩; have HB1 := Lib.hid (below_one hb1); clear hb1)
  go_ret
  exact ⟨rfl, HB1.out⟩
def allR (l : List Fd) : Bool := l.all fun f => fieldR f.1 f.2
set_option maxRecDepth 100000 in
set_option maxHeartbeats 2000000 in
theorem index_wrong (v : Value) (l : List Fd) (w : World) (h : Flds w v l) (hl : l.length ≤ 1000000) (hs : ∀ g ∈ l, g.1.size ≤ 1000000 ∧ g.2.size ≤ 1000000) :
    Calls Tryz.prog 118 #[v, .func (.func 58) #[] #[]] w fun e w' => ∃ z : Int, e = .returned (.int .i64 z) ∧ decide (0 ≤ z) = !allR l ∧ Below w.heap.size w w' := by
  obtain ⟨p, c, rfl, hc⟩ := h
  have HC := Lib.hid hc
  have HS := Lib.hid hs
  clear hc hs
  go_enter Tryz.func118, Tryz.ntmps118
  go_wp2_with fail
  go_loopw [8] (fun u8 wr => ∃ k : Nat, k ≤ l.length ∧ u8 = .int .i64 k ∧ (∀ j (hj : j < l.length), j < k → fieldR l[j].1 l[j].2 = true) ∧ Below w.heap.size w wr) (fun u8 _ => l.length - (intOf u8).toNat)
  case atStart => exact ⟨0, Nat.zero_le _, rfl, fun j _ hj => absurd hj (Nat.not_lt_zero _), Below.refl _ _⟩
  case round =>
    obtain ⟨k, hk, rfl, hpre, hbel⟩ := hrel
    have HP := Lib.hid hpre
    have HB := Lib.hid hbel
    clear hpre hbel
    by_cases hlt : k < l.length
    · have hk1 : decide ((k : Int) < (l.length : Int)) = true := decide_eq_true (by omega)
      obtain ⟨b, off, hp, c0, c1⟩ := HC.out k hlt
      subst hp
      obtain ⟨g, hg⟩ : ∃ g, g = l[k] := ⟨_, rfl⟩
      rw [← hg] at c0 c1
      have hgs := HS.out g (by rw [hg]; exact List.getElem_mem hlt)
      obtain ⟨n, v⟩ := g
      have e0 := (bcell HB.out b _ (World.block_lt_of_cell? _ _ c0)).trans c0
      have e1 := (bcell HB.out b _ (World.block_lt_of_cell? _ _ c1)).trans c1
      have HW := Lib.hid (fun (W : World) => wrong_any n v (by simp only at hgs; omega) (by simp only at hgs; omega) W)
      obtain ⟨F, hF⟩ : ∃ F, F = fieldR n v := ⟨_, rfl⟩
      rw [← hF] at HW
      have HG := Lib.hid hg
      have HF := Lib.hid hF
      have hoff : off + k * 2 = off + 2 * k := by omega
      have hoff1 : off + k * 2 + 1 = off + 2 * k + 1 := by omega
      rw [← hoff] at e0
      rw [← hoff1] at e1
      clear hg hF hgs c0 c1 hoff hoff1
      simp only at e0 e1
      cases F with
      | true =>
        go_wp2_with (go_at_call 58; refine (HW.out _).mono ?_; rintro e2 w2 ⟨rfl, hb2⟩; have HB2 := Lib.hid (HB.out.trans (hb2.mono HB.out.size)); clear hb2)
        go_roundw
        case rel =>
          refine ⟨k + 1, hlt, by go_num, fun j hj hjk => ?_, HB2.out⟩
          by_cases e : j = k
          · subst e
            rw [← HG.out]
            exact HF.out.symm
          · exact HP.out j hj (by omega)
        case measure => simp [intOf]; omega
      | false =>
        go_wp2_with (go_at_call 58; refine (HW.out _).mono ?_; rintro e2 w2 ⟨rfl, hb2⟩; have HB2 := Lib.hid (HB.out.trans (hb2.mono HB.out.size)); clear hb2)
        go_ret
        refine ⟨(k : Int), rfl, ?_, HB2.out⟩
        have hA : allR l = false := by
          unfold allR
          rw [List.all_eq_false]
          refine ⟨l[k], List.getElem_mem hlt, ?_⟩
          rw [← HG.out, ← HF.out]
          decide
        rw [hA, decide_eq_true (by omega)]
        rfl
    · have hk1 : decide ((k : Int) < (l.length : Int)) = false := decide_eq_false (by omega)
      go_wp2_with fail
      go_ret
      refine ⟨-1, rfl, ?_, HB.out⟩
      have hA : allR l = true := by
        unfold allR
        rw [List.all_eq_true]
        intro x hx
        obtain ⟨j, hj, rfl⟩ := List.getElem_of_mem hx
        exact HP.out j hj (by omega)
      rw [hA]
      rfl
set_option maxRecDepth 100000 in
theorem contains_wrong (v : Value) (l : List Fd) (w : World) (h : Flds w v l) (hl : l.length ≤ 1000000) (hs : ∀ g ∈ l, g.1.size ≤ 1000000 ∧ g.2.size ≤ 1000000) :
    Calls Tryz.prog 62 #[v, .func (.func 58) #[] #[]] w fun e w' => e = .returned (.bool (!allR l)) ∧ Below w.heap.size w w' := by
  have HI := Lib.hid (index_wrong v l w h hl hs)
  obtain ⟨A, hA⟩ : ∃ A, A = !allR l := ⟨_, rfl⟩
  rw [← hA] at HI ⊢
  clear hA h hl hs
  go_enter Tryz.func62, Tryz.ntmps62
  go_wp2_with (go_at_call 118; refine HI.out.mono ?_; rintro e1 w1 ⟨z, rfl, hz, hb1⟩; have HZ := Lib.hid hz; have HB1 := Lib.hid hb1; clear hz hb1)
  go_ret
  refine ⟨?_, HB1.out⟩
  rw [← HZ.out]
  rfl
/-- Is it a request's first line; a response's. -/
def reqR (m t : ByteArray) (n : Int) (r : ByteArray) : Bool := tokL m.data.toList && (visL t.data.toList && (n == 0 && r.toList.isEmpty))
def rspR (m t : ByteArray) (n : Int) (r : ByteArray) : Bool := m.toList.isEmpty && (t.toList.isEmpty && (decide (100 ≤ n) && (decide (n ≤ 599) && valL r.data.toList)))
set_option maxRecDepth 100000 in
set_option maxHeartbeats 2000000 in
theorem request_is (m t r : ByteArray) (k n : Int) (f : Value) (hm : m.size ≤ 1000000) (ht : t.size ≤ 1000000) (hr : r.size ≤ 1000000) (w : World) :
    Calls Tryz.prog 60 #[.agg #[.string m, .string t, .int .i64 k, .int .i64 n, .string r, f]] w fun e w' => e = .returned (.bool (reqR m t n r)) ∧ Below w.heap.size w w' := by
  have H1 := Lib.hid (fun (W : World) => token_any m (by omega) W)
  have H2 := Lib.hid (fun (W : World) => visible_any t (by omega) W)
  have KR := Lib.hid (Blk.new w #[.string m, .string t, .int .i64 k, .int .i64 n, .string r, f] 24)
  obtain ⟨p1, h1⟩ : ∃ p, p = tokL m.data.toList := ⟨_, rfl⟩
  obtain ⟨p2, h2⟩ : ∃ p, p = visL t.data.toList := ⟨_, rfl⟩
  have HR : Hid (reqR m t n r = (p1 && (p2 && (n == 0 && r.toList.isEmpty)))) := by show _ = _; unfold reqR; rw [h1, h2]
  rw [← h1] at H1
  rw [← h2] at H2
  clear h1 h2 hm ht hr
  cases p1 with
  | false =>
    go_enter Tryz.func60, Tryz.ntmps60
    go_wp2_with (go_at_call 114; refine (H1.out _).mono ?_; rintro e1 w1 ⟨rfl, hb1⟩; have HB1 := Lib.hid (below_one hb1); clear hb1)
    go_ret
    exact ⟨by rw [HR.out]; rfl, HB1.out⟩
  | true =>
    cases p2 with
    | false =>
      go_enter Tryz.func60, Tryz.ntmps60
      go_wp2_with (first | (go_at_call 114; refine (H1.out _).mono ?_; rintro e1 w1 ⟨rfl, hb1⟩; have HB1 := Lib.hid (below_one hb1); have K1 := Lib.hid (KR.out.call hb1); have x1 := K1.out.cell 1; have x3 := K1.out.cell 3; have x4 := K1.out.cell 4; simp at x1 x3 x4; clear hb1) | (go_at_call 117; refine (H2.out _).mono ?_; rintro e2 w2 ⟨rfl, hb2⟩; have HB2 := Lib.hid (HB1.out.trans (hb2.mono HB1.out.size)); clear hb2))
      go_ret
      exact ⟨by rw [HR.out]; rfl, HB2.out⟩
    | true =>
      cases h3 : (n == 0)
      all_goals
        cases h4 : r.toList.isEmpty
        all_goals
          go_enter Tryz.func60, Tryz.ntmps60
          go_wp2_with (first | (go_at_call 114; refine (H1.out _).mono ?_; rintro e1 w1 ⟨rfl, hb1⟩; have HB1 := Lib.hid (below_one hb1); have K1 := Lib.hid (KR.out.call hb1); have x1 := K1.out.cell 1; simp at x1; clear hb1) | (go_at_call 117; refine (H2.out _).mono ?_; rintro e2 w2 ⟨rfl, hb2⟩; have HB2 := Lib.hid (HB1.out.trans (hb2.mono HB1.out.size)); have K2 := Lib.hid (K1.out.call hb2); have y3 := K2.out.cell 3; have y4 := K2.out.cell 4; simp at y3 y4; clear hb2))
          go_ret
          exact ⟨by rw [HR.out, h3, h4]; rfl, HB2.out⟩
set_option maxRecDepth 100000 in
set_option maxHeartbeats 2000000 in
theorem response_is (m t r : ByteArray) (k n : Int) (f : Value) (hm : m.size ≤ 1000000) (ht : t.size ≤ 1000000) (hr : r.size ≤ 1000000) (w : World) :
    Calls Tryz.prog 61 #[.agg #[.string m, .string t, .int .i64 k, .int .i64 n, .string r, f]] w fun e w' => e = .returned (.bool (rspR m t n r)) ∧ Below w.heap.size w w' := by
  have H1 := Lib.hid (fun (W : World) => value_any r (by omega) W)
  have HB0 := Lib.hid ((Below.refl w.heap.size w).alloc (Nat.le_refl _) (.cells #[.string m, .string t, .int .i64 k, .int .i64 n, .string r, f] 24))
  obtain ⟨p5, h5⟩ : ∃ p, p = valL r.data.toList := ⟨_, rfl⟩
  have HR : Hid (rspR m t n r = (m.toList.isEmpty && (t.toList.isEmpty && (decide (100 ≤ n) && (decide (n ≤ 599) && p5))))) := by show _ = _; unfold rspR; rw [h5]
  rw [← h5] at H1
  clear h5 hm ht hr
  have hc : m.toList.isEmpty = false ∨ (m.toList.isEmpty = true ∧ (t.toList.isEmpty = false ∨ (t.toList.isEmpty = true ∧ (decide (100 ≤ n) = false ∨ (decide (100 ≤ n) = true ∧ (decide (n ≤ 599) = false ∨ decide (n ≤ 599) = true)))))) := by
    cases m.toList.isEmpty <;> cases t.toList.isEmpty <;> cases decide (100 ≤ n) <;> cases decide (n ≤ 599) <;> simp
  rcases hc with e1 | ⟨e1, e2 | ⟨e2, e3 | ⟨e3, e4 | e4⟩⟩⟩
  all_goals
    go_enter Tryz.func61, Tryz.ntmps61
    go_wp2_with (go_at_call 115; refine (H1.out _).mono ?_; rintro x1 w1 ⟨rfl, hb1⟩; have HB1 := Lib.hid (below_one hb1); clear hb1)
    go_ret
    first
      | exact ⟨by rw [HR.out, e1]; rfl, HB0.out⟩
      | exact ⟨by rw [HR.out, e1, e2]; rfl, HB0.out⟩
      | exact ⟨by rw [HR.out, e1, e2, e3]; rfl, HB0.out⟩
      | exact ⟨by rw [HR.out, e1, e2, e3, e4]; rfl, HB0.out⟩
      | exact ⟨by rw [HR.out, e1, e2, e3, e4]; rfl, HB1.out⟩
/-- Is a head right? -/
def rightP (m t : ByteArray) (k n : Int) (r : ByteArray) (l : List Fd) : Bool := (reqR m t n r || rspR m t n r) && ((k == 0 || k == 1) && allR l)
set_option maxRecDepth 100000 in
set_option maxHeartbeats 4000000 in
theorem hright_any (m t r : ByteArray) (k n : Int) (f : Value) (l : List Fd) (hm : m.size ≤ 1000000) (ht : t.size ≤ 1000000) (hr : r.size ≤ 1000000) (w : World) (h : Flds w f l) (hl : l.length ≤ 1000000) (hs : ∀ g ∈ l, g.1.size ≤ 1000000 ∧ g.2.size ≤ 1000000) :
    Calls Tryz.prog 26 #[.agg #[.string m, .string t, .int .i64 k, .int .i64 n, .string r, f]] w fun e w' => e = .returned (.bool (rightP m t k n r l)) ∧ Below w.heap.size w w' := by
  have H1 := Lib.hid (fun (W : World) => request_is m t r k n f hm ht hr W)
  have H2 := Lib.hid (fun (W : World) => response_is m t r k n f hm ht hr W)
  have H3 := Lib.hid (fun (W : World) (hW : Below w.heap.size w W) => contains_wrong f l W (h.below hW) hl hs)
  have KR := Lib.hid (Blk.new w #[.string m, .string t, .int .i64 k, .int .i64 n, .string r, f] 24)
  obtain ⟨p1, h1⟩ : ∃ p, p = reqR m t n r := ⟨_, rfl⟩
  obtain ⟨p2, h2⟩ : ∃ p, p = rspR m t n r := ⟨_, rfl⟩
  obtain ⟨p5, h5⟩ : ∃ p, p = allR l := ⟨_, rfl⟩
  have HR : Hid (rightP m t k n r l = ((p1 || p2) && ((k == 0 || k == 1) && p5))) := by show _ = _; unfold rightP; rw [h1, h2, h5]
  rw [← h1] at H1
  rw [← h2] at H2
  rw [← h5] at H3
  clear h1 h2 h5 hm ht hr h hl hs
  have hc : ((k == 0) = true) ∨ ((k == 0) = false ∧ (k == 1) = true) ∨ ((k == 0) = false ∧ (k == 1) = false) := by cases (k == 0) <;> cases (k == 1) <;> simp
  cases p1 <;> cases p2
  all_goals
    rcases hc with e1 | ⟨e1, e2⟩ | ⟨e1, e2⟩
    all_goals
      go_enter Tryz.func26, Tryz.ntmps26
      go_wp2_with (first
        | (go_at_call 60; refine (H1.out _).mono ?_; rintro x1 w1 ⟨rfl, hb1⟩; have HB := Lib.hid (below_one hb1); have K1 := Lib.hid (KR.out.call hb1); have x0 := K1.out.cell 0; have x1 := K1.out.cell 1; have x2 := K1.out.cell 2; have x3 := K1.out.cell 3; have x4 := K1.out.cell 4; have x5 := K1.out.cell 5; simp at x0 x1 x2 x3 x4 x5; clear hb1)
        | (go_at_call 61; refine (H2.out _).mono ?_; rintro x2 w2 ⟨rfl, hb2⟩; have HB := Lib.hid (HB.out.trans (hb2.mono HB.out.size)); have K2 := Lib.hid (K1.out.call hb2); clear x0 x1 x2 x3 x4 x5; have y0 := K2.out.cell 0; have y1 := K2.out.cell 1; have y2 := K2.out.cell 2; have y3 := K2.out.cell 3; have y4 := K2.out.cell 4; have y5 := K2.out.cell 5; simp at y0 y1 y2 y3 y4 y5; clear hb2)
        | (go_at_call 62; refine (H3.out _ HB.out).mono ?_; rintro x3 w3 ⟨rfl, hb3⟩; have HB := Lib.hid (HB.out.trans (hb3.mono HB.out.size)); clear hb3))
      go_ret
      refine ⟨?_, HB.out⟩
      rw [HR.out]
      cases p5 <;> simp_all
theorem right_ref (m t : ByteArray) (k n : Int) (r : ByteArray) (l : List Fd) : rightP m t k n r l = (((k == 0 || k == 1) && (if m.toList.isEmpty = true then (t.toList.isEmpty && (decide (100 ≤ n) && (decide (n ≤ 599) && valL r.data.toList))) else (tokL m.data.toList && (visL t.data.toList && (n == 0 && r.toList.isEmpty))))) && allR l) := by
  unfold rightP reqR rspR
  cases hm : m.toList.isEmpty with
  | true =>
    have h1 : tokL m.data.toList = false := by
      rw [isEmpty_list] at hm
      unfold tokL
      rw [hm]
      rfl
    rw [h1]
    cases (k == 0 || k == 1) <;> simp
  | false => cases (k == 0 || k == 1) <;> simp
set_option maxRecDepth 100000 in
set_option maxHeartbeats 4000000 in
theorem rright_any (m t r : ByteArray) (k n : Int) (f : Value) (l : List Fd) (hm : m.size ≤ 1000000) (ht : t.size ≤ 1000000) (hr : r.size ≤ 1000000) (w : World) (h : Flds w f l) (hl : l.length ≤ 1000000) (hs : ∀ g ∈ l, g.1.size ≤ 1000 ∧ g.2.size ≤ 1000) :
    Calls Tryz.prog 43 #[.agg #[.string m, .string t, .int .i64 k, .int .i64 n, .string r, f]] w fun e w' => e = .returned (.bool (rightP m t k n r l)) ∧ Below w.heap.size w w' := by
  obtain ⟨p, c, rfl, hcl⟩ := h
  have H1 := Lib.hid (fun (W : World) => rtoken_any m (by omega) W)
  have H2 := Lib.hid (fun (W : World) => rvisible_any t (by omega) W)
  have H3 := Lib.hid (fun (W : World) => rvalue_any r (by omega) W)
  have KR := Lib.hid (Blk.new w #[.string m, .string t, .int .i64 k, .int .i64 n, .string r, .slice p l.length c] 24)
  have HB0 := Lib.hid ((Below.refl w.heap.size w).alloc (Nat.le_refl _) (.cells #[.string m, .string t, .int .i64 k, .int .i64 n, .string r, .slice p l.length c] 24))
  obtain ⟨p1, h1⟩ : ∃ p, p = tokL m.data.toList := ⟨_, rfl⟩
  obtain ⟨p2, h2⟩ : ∃ p, p = visL t.data.toList := ⟨_, rfl⟩
  obtain ⟨p3, h3⟩ : ∃ p, p = valL r.data.toList := ⟨_, rfl⟩
  obtain ⟨ok, hok⟩ : ∃ b, b = ((k == 0 || k == 1) && (if m.toList.isEmpty = true then (t.toList.isEmpty && (decide (100 ≤ n) && (decide (n ≤ 599) && p3))) else (p1 && (p2 && (n == 0 && r.toList.isEmpty))))) := ⟨_, rfl⟩
  have HR : Hid (rightP m t k n r l = (ok && allR l)) := by show _ = _; rw [right_ref, hok, h1, h2, h3]
  rw [← h1] at H1
  rw [← h2] at H2
  rw [← h3] at H3
  have HC := Lib.hid hcl
  have HS := Lib.hid hs
  have HOK := Lib.hid hok
  clear h1 h2 h3 hok hm ht hr hs hcl
  -- the loop over the fields
  have HLOOP : Hid True := trivial
  have hc : ((k == 0) = true) ∨ ((k == 0) = false ∧ (k == 1) = true) ∨ ((k == 0) = false ∧ (k == 1) = false) := by cases (k == 0) <;> cases (k == 1) <;> simp
  have hc2 : (m.toList.isEmpty = true ∧ (t.toList.isEmpty = false ∨ (t.toList.isEmpty = true ∧ (decide (100 ≤ n) = false ∨ (decide (100 ≤ n) = true ∧ (decide (n ≤ 599) = false ∨ decide (n ≤ 599) = true)))))) ∨ (m.toList.isEmpty = false ∧ (p1 = false ∨ (p1 = true ∧ (p2 = false ∨ (p2 = true ∧ ((n == 0) = false ∨ (n == 0) = true)))))) := by
    cases m.toList.isEmpty <;> cases t.toList.isEmpty <;> cases decide (100 ≤ n) <;> cases decide (n ≤ 599) <;> cases p1 <;> cases p2 <;> cases (n == 0) <;> simp
  have HFR : Hid (∀ (W : World) (i : Nat) (hi : i < l.length), Calls Tryz.prog 96 #[.agg #[.string l[i].1, .string l[i].2]] W fun e w' => e = .returned (.bool (fieldR l[i].1 l[i].2)) ∧ Below W.heap.size W w') := fun W i hi => rfright_any _ _ (by have := (HS.out l[i] (List.getElem_mem hi)).1; omega) (by have := (HS.out l[i] (List.getElem_mem hi)).2; omega) W
  rcases hc with e1 | ⟨e1, e2⟩ | ⟨e1, e2⟩
  all_goals
    rcases hc2 with ⟨g1, g2 | ⟨g2, g3 | ⟨g3, g4 | g4⟩⟩⟩ | ⟨g1, g2 | ⟨g2, g3 | ⟨g3, g4 | g4⟩⟩⟩
    all_goals
      try subst g2
      try subst g3
      go_enter Tryz.func43, Tryz.ntmps43
      go_wp2_with (first
        | (go_at_call 93; refine (H1.out _).mono ?_; rintro x1 w1 ⟨rfl, h1⟩; subst h1)
        | (go_at_call 94; refine (H2.out _).mono ?_; rintro x1 w1 ⟨rfl, h1⟩; subst h1)
        | (go_at_call 95; refine (H3.out _).mono ?_; rintro x1 w1 ⟨rfl, h1⟩; subst h1))
      go_loopw [3, 4] (fun u3 u4 wr => ∃ (i : Nat) (b0 : Bool), i ≤ l.length ∧ u4 = .int .i64 i ∧ u3 = .bool b0 ∧ b0 = (ok && allR (l.take i)) ∧ Blk wr w.heap.size #[.string m, .string t, .int .i64 k, .int .i64 n, .string r, .slice p l.length c] 24 ∧ Below w.heap.size w wr) (fun _ u4 _ => l.length - (intOf u4).toNat)
      case atStart => exact ⟨0, _, Nat.zero_le _, rfl, rfl, by rw [HOK.out]; simp_all [allR] <;> (intros; exfalso; omega), KR.out, HB0.out⟩
      case round =>
        obtain ⟨i, b0, hi, rfl, rfl, hb0, hkr, hbel⟩ := hrel
        have H0 := Lib.hid hb0
        have HKR := Lib.hid hkr
        have HB := Lib.hid hbel
        have x5 : wr.cell? ⟨w.heap.size, 5, none⟩ = some (.slice p l.length c) := hkr.cell 5
        clear hb0 hkr hbel
        by_cases hlt : i < l.length
        · have hk1 : decide ((i : Int) < (l.length : Int)) = true := decide_eq_true (by omega)
          obtain ⟨b, off, hp, c0, c1⟩ := HC.out i hlt
          subst hp
          have q0 := (bcell HB.out b _ (World.block_lt_of_cell? _ _ c0)).trans c0
          have q1 := (bcell HB.out b _ (World.block_lt_of_cell? _ _ c1)).trans c1
          have HF := Lib.hid (fun (W : World) => HFR.out W i hlt)
          obtain ⟨⟨fn, fv⟩, hg⟩ : ∃ g, g = l[i] := ⟨_, rfl⟩
          rw [← hg] at q0 q1 HF
          have hoff : off + i * 2 = off + 2 * i := by omega
          have hoff1 : off + i * 2 + 1 = off + 2 * i + 1 := by omega
          rw [← hoff] at q0
          rw [← hoff1] at q1
          obtain ⟨F, hF⟩ : ∃ F, F = fieldR fn fv := ⟨_, rfl⟩
          simp only at q0 q1 HF
          rw [← hF] at HF
          have hst : allR (l.take (i + 1)) = (allR (l.take i) && F) := by
            rw [List.take_succ_eq_append_getElem hlt, ← hg]
            unfold allR
            rw [List.all_append, hF]
            simp
          have HST := Lib.hid hst
          clear hg c0 c1 hoff hoff1 hF hst
          cases b0 with
          | false =>
            go_wp2_with fail
            go_roundw
            case rel => exact ⟨i + 1, false, hlt, by go_num, rfl, by rw [HST.out, ← Bool.and_assoc, ← H0.out]; rfl, HKR.out, HB.out⟩
            case measure => simp [intOf]; omega
          | true =>
            go_wp2_with (go_at_call 96; refine (HF.out _).mono ?_; rintro y1 w2 ⟨rfl, hb2⟩; have HB2 := Lib.hid hb2; clear hb2)
            go_roundw
            case rel => exact ⟨i + 1, F, hlt, by go_num, rfl, by rw [HST.out, ← Bool.and_assoc, ← H0.out]; simp, HKR.out.call HB2.out, HB.out.trans (HB2.out.mono HB.out.size)⟩
            case measure => simp [intOf]; omega
        · have hk1 : decide ((i : Int) < (l.length : Int)) = false := decide_eq_false (by omega)
          have hfin : b0 = (ok && allR l) := by rw [H0.out, List.take_of_length_le (by omega)]
          have HFI := Lib.hid hfin
          clear hfin
          go_wp2_with fail
          go_ret
          exact ⟨by rw [HR.out, ← HFI.out]; rfl, HB.out⟩
end Go.Proofs.YtmoofcmmpemdcaaGreatDoor
