/- Texts packed for one claim, 32 of 35: Fone. -/
import Derived.Test.YtimcmiokabbkfaaDoorFramingOneQ9
import Derived.Test.YtimcmiokabbkfaaDoorFramingOneQ21
import Derived.Test.YtimcmiokabbkfaaDoorFramingOneQ28
import Derived.Test.YtimcmiokabbkfaaDoorFramingOneQ31
set_option linter.unusedSimpArgs false
set_option linter.unusedVariables false
-- Fone
namespace Go.Proofs.YtimcmiokabbkfaaDoor
open Go.RowKit
theorem fdsOk_nil : FdsOk [] := ⟨Nat.zero_le _, (fun g h => by cases h), (fun g h => by cases h), by decide⟩
theorem fdsOk_few {fs : List Fd} (h : fs.length ≤ 50) (hg : ∀ g ∈ fs, g.1.size ≤ 1000 ∧ g.2.size ≤ 1000) : FdsOk fs := by
  refine ⟨by omega, fun g m => by have := (hg g m).1; omega, fun g m => by have := (hg g m).2; omega, ?_⟩
  have h1 := joinL_size (allB fs teB) 1000 (fun s hs => by
    unfold allB at hs
    obtain ⟨q, hq, rfl⟩ := List.mem_map.1 hs
    exact (hg q (List.mem_filter.1 hq).1).2)
  have h2 := allB_len fs teB
  have h3 : (allB fs teB).length * (1000 + 2) ≤ 50 * (1000 + 2) := Nat.mul_le_mul_right _ (by omega)
  omega
set_option maxRecDepth 100000 in
set_option maxHeartbeats 4000000 in
theorem frlives_any (w : World) : Calls Tryd.prog 6 #[] w fun e w' => e = .returned (.bool true) ∧ Below w.heap.size w w' := by
  have e1 : respP [] 1 200 ⟨#[71, 69, 84]⟩ = (3, 0, 0) := by decide +kernel
  have e2 : respP [] 1 200 ⟨#[72, 69, 65, 68]⟩ = (0, 0, 0) := by decide +kernel
  have e3 : reqP [] 1 = (0, 0, 13) := by decide +kernel
  have HA := Lib.hid (fun (W : World) => response_any ⟨#[]⟩ ⟨#[]⟩ ⟨#[]⟩ 1 200 (.slice none 0 0) [] ⟨#[71, 69, 84]⟩ W (Flds.nil _ _ _) fdsOk_nil)
  have HB := Lib.hid (fun (W : World) => response_any ⟨#[]⟩ ⟨#[]⟩ ⟨#[]⟩ 1 200 (.slice none 0 0) [] ⟨#[72, 69, 65, 68]⟩ W (Flds.nil _ _ _) fdsOk_nil)
  have HC := Lib.hid (fun (W : World) => request_fr_any ⟨#[71, 69, 84]⟩ ⟨#[47]⟩ ⟨#[]⟩ 1 0 (.slice none 0 0) [] W (Flds.nil _ _ _) fdsOk_nil)
  rw [e1] at HA
  rw [e2] at HB
  rw [e3] at HC
  clear e1 e2 e3
  go_enter Tryd.func6, Tryd.ntmps6
  go_wp2_with fail
  refine (HA.out _).mono ?_
  rintro x1 w1 ⟨rfl, h1⟩
  have KA := Lib.hid (Blk.new w1 #[.int .i64 3, .int .i64 0] 31)
  have B1 := Lib.hid (h1.alloc h1.size (.cells #[.int .i64 3, .int .i64 0] 31))
  clear h1
  go_wp2_with fail
  refine (HB.out _).mono ?_
  rintro x2 w2 ⟨rfl, h2⟩
  have KA2 := Lib.hid ((KA.out.call h2).alloc (.cells #[.int .i64 0, .int .i64 0] 31))
  have KB := Lib.hid (Blk.new w2 #[.int .i64 0, .int .i64 0] 31)
  have B2 := Lib.hid ((B1.out.trans (h2.mono B1.out.size)).alloc (Nat.le_trans B1.out.size h2.size) (.cells #[.int .i64 0, .int .i64 0] 31))
  clear h2
  go_wp2_with fail
  refine (HC.out _).mono ?_
  rintro x3 w3 ⟨rfl, h3⟩
  have KA3 := Lib.hid ((KA2.out.call h3).alloc (.cells #[.int .i64 0, .int .i64 0] 31))
  have KB3 := Lib.hid ((KB.out.call h3).alloc (.cells #[.int .i64 0, .int .i64 0] 31))
  have B3 := Lib.hid ((B2.out.trans (h3.mono B2.out.size)).alloc (Nat.le_trans B2.out.size h3.size) (.cells #[.int .i64 0, .int .i64 0] 31))
  clear h3
  have a0 := KA3.out.cell 0
  have a1 := KA3.out.cell 1
  have b0 := KB3.out.cell 0
  have b1 := KB3.out.cell 1
  simp at a0 a1 b0 b1
  go_wp2_with fail
  go_ret
  exact ⟨rfl, B3.out⟩
-- WALK
set_option maxRecDepth 100000 in
set_option maxHeartbeats 8000000 in
theorem fone_short (m t r : ByteArray) (k n a b : Int) (A : Option Addr) (len cap : Nat) (l : List Fd) (w : World) (sh d1 d2 d3 d4 d5 : Bool)
    (hS : Calls Tryd.prog 5 #[.agg #[.string m, .string t, .int .i64 k, .int .i64 n, .string r, .slice A len cap]] (w.alloc (.cells #[.string m, .string t, .int .i64 k, .int .i64 n, .string r, .slice A len cap] 24)) fun e w' => e = .returned (.bool sh) ∧ Below (w.alloc (.cells #[.string m, .string t, .int .i64 k, .int .i64 n, .string r, .slice A len cap] 24)).heap.size (w.alloc (.cells #[.string m, .string t, .int .i64 k, .int .i64 n, .string r, .slice A len cap] 24)) w')
    (h1 : decide (a < 0) = d1) (h2 : decide (2147483647 < a) = d2) (h3 : decide (b < 0) = d3) (h4 : decide (2147483647 < b) = d4) (h5 : (a == b) = d5) (hd : sh = false ∨ d1 = true ∨ d2 = true ∨ d3 = true ∨ d4 = true ∨ d5 = true) :
    Calls Tryd.prog 3 #[.agg #[.string m, .string t, .int .i64 k, .int .i64 n, .string r, .slice A len cap], .int .i64 a, .int .i64 b] w fun e w' => e = .returned (.bool true) ∧ Below w.heap.size w w' := by
  have HS := Lib.hid hS
  have HLV := Lib.hid (fun (W : World) => frlives_any W)
  have HB0 := Lib.hid ((Below.refl w.heap.size w).alloc (Nat.le_refl _) (.cells #[.string m, .string t, .int .i64 k, .int .i64 n, .string r, .slice A len cap] 24))
  have KH0 := Lib.hid (Blk.new w #[.string m, .string t, .int .i64 k, .int .i64 n, .string r, .slice A len cap] 24)
  have k0 := KH0.out.cell 0
  have k1 := KH0.out.cell 1
  have k2 := KH0.out.cell 2
  have k3 := KH0.out.cell 3
  have k4 := KH0.out.cell 4
  have k5 := KH0.out.cell 5
  simp at k0 k1 k2 k3 k4 k5
  clear hS
  cases sh with
  | false =>
    clear hd
    go_enter Tryd.func3, Tryd.ntmps3
    go_wp2_with (first
      | (go_at_call 5; refine HS.out.mono ?_; rintro e1 w1 ⟨rfl, hb⟩; have HB1 := Lib.hid (HB0.out.trans (hb.mono HB0.out.size)); clear hb)
      | (go_at_call 6; refine (HLV.out _).mono ?_; rintro e2 w2 ⟨rfl, hb⟩; have HB2 := Lib.hid (HB1.out.trans (hb.mono HB1.out.size)); clear hb))
    go_ret
    exact ⟨rfl, HB2.out⟩
  | true =>
    cases d1 with
    | true =>
      clear hd
      go_enter Tryd.func3, Tryd.ntmps3
      go_wp2_with (first
        | (go_at_call 5; refine HS.out.mono ?_; rintro e1 w1 ⟨rfl, hb⟩; have HB1 := Lib.hid (HB0.out.trans (hb.mono HB0.out.size)); clear hb)
        | (go_at_call 6; refine (HLV.out _).mono ?_; rintro e2 w2 ⟨rfl, hb⟩; have HB2 := Lib.hid (HB1.out.trans (hb.mono HB1.out.size)); clear hb))
      go_ret
      exact ⟨rfl, HB2.out⟩
    | false =>
      cases d2 with
      | true =>
        clear hd
        go_enter Tryd.func3, Tryd.ntmps3
        go_wp2_with (first
          | (go_at_call 5; refine HS.out.mono ?_; rintro e1 w1 ⟨rfl, hb⟩; have HB1 := Lib.hid (HB0.out.trans (hb.mono HB0.out.size)); clear hb)
          | (go_at_call 6; refine (HLV.out _).mono ?_; rintro e2 w2 ⟨rfl, hb⟩; have HB2 := Lib.hid (HB1.out.trans (hb.mono HB1.out.size)); clear hb))
        go_ret
        exact ⟨rfl, HB2.out⟩
      | false =>
        cases d3 with
        | true =>
          clear hd
          go_enter Tryd.func3, Tryd.ntmps3
          go_wp2_with (first
            | (go_at_call 5; refine HS.out.mono ?_; rintro e1 w1 ⟨rfl, hb⟩; have HB1 := Lib.hid (HB0.out.trans (hb.mono HB0.out.size)); clear hb)
            | (go_at_call 6; refine (HLV.out _).mono ?_; rintro e2 w2 ⟨rfl, hb⟩; have HB2 := Lib.hid (HB1.out.trans (hb.mono HB1.out.size)); clear hb))
          go_ret
          exact ⟨rfl, HB2.out⟩
        | false =>
          cases d4 with
          | true =>
            clear hd
            go_enter Tryd.func3, Tryd.ntmps3
            go_wp2_with (first
              | (go_at_call 5; refine HS.out.mono ?_; rintro e1 w1 ⟨rfl, hb⟩; have HB1 := Lib.hid (HB0.out.trans (hb.mono HB0.out.size)); clear hb)
              | (go_at_call 6; refine (HLV.out _).mono ?_; rintro e2 w2 ⟨rfl, hb⟩; have HB2 := Lib.hid (HB1.out.trans (hb.mono HB1.out.size)); clear hb))
            go_ret
            exact ⟨rfl, HB2.out⟩
          | false =>
            cases d5 with
            | true =>
              clear hd
              go_enter Tryd.func3, Tryd.ntmps3
              go_wp2_with (first
                | (go_at_call 5; refine HS.out.mono ?_; rintro e1 w1 ⟨rfl, hb⟩; have HB1 := Lib.hid (HB0.out.trans (hb.mono HB0.out.size)); clear hb)
                | (go_at_call 6; refine (HLV.out _).mono ?_; rintro e2 w2 ⟨rfl, hb⟩; have HB2 := Lib.hid (HB1.out.trans (hb.mono HB1.out.size)); clear hb))
              go_ret
              exact ⟨rfl, HB2.out⟩
            | false =>
              simp at hd
end Go.Proofs.YtimcmiokabbkfaaDoor
