/- Texts packed for one claim, 31 of 34: FrLives. -/
import Derived.Test.YtcpjkemjpgggcaaGreatDoorFraQ25
import Derived.Test.YtcpjkemjpgggcaaGreatDoorFraQ30
set_option linter.unusedSimpArgs false
set_option linter.unusedVariables false
-- FrLives
namespace Go.Proofs.YtcpjkemjpgggcaaGreatDoor
open Go.RowKit
theorem fdsOk_nil : FdsOk [] := ⟨Nat.zero_le _, (fun g h => by cases h), (fun g h => by cases h), by decide⟩
theorem fdsOk_few {fs : List Fd} (h : fs.length ≤ 50) (hg : ∀ g ∈ fs, g.1.size ≤ 1000 ∧ g.2.size ≤ 1000) : FdsOk fs := by
  refine ⟨by omega, fun g m => by have := (hg g m).1; omega, fun g m => by have := (hg g m).2; omega, ?_⟩
  have h1 := joinL_size (allB fs teB) 1000 (fun s hs => by
    unfold allB at hs
    obtain ⟨q, hq, rfl⟩ := List.mem_map.1 hs
    exact (hg q (List.mem_filter.1 hq).1).2)
  have h2 := allB_len fs teB
  have h3 : (allB fs teB).length * (1000 + 2) ≤ 50 * (1000 + 2) := Nat.mul_le_mul_right _ (by omega)
  omega
set_option maxRecDepth 100000 in
set_option maxHeartbeats 4000000 in
theorem frlives_any (w : World) : Calls Tryz.prog 8 #[] w fun e w' => e = .returned (.bool true) ∧ Below w.heap.size w w' := by
  have e1 : respP [] 1 200 ⟨#[71, 69, 84]⟩ = (3, 0, 0) := by decide +kernel
  have e2 : respP [] 1 200 ⟨#[72, 69, 65, 68]⟩ = (0, 0, 0) := by decide +kernel
  have e3 : reqP [] 1 = (0, 0, 13) := by decide +kernel
  have HA := Lib.hid (fun (W : World) => response_any ⟨#[]⟩ ⟨#[]⟩ ⟨#[]⟩ 1 200 (.slice none 0 0) [] ⟨#[71, 69, 84]⟩ W (Flds.nil _ _ _) fdsOk_nil)
  have HB := Lib.hid (fun (W : World) => response_any ⟨#[]⟩ ⟨#[]⟩ ⟨#[]⟩ 1 200 (.slice none 0 0) [] ⟨#[72, 69, 65, 68]⟩ W (Flds.nil _ _ _) fdsOk_nil)
  have HC := Lib.hid (fun (W : World) => request_fr_any ⟨#[71, 69, 84]⟩ ⟨#[47]⟩ ⟨#[]⟩ 1 0 (.slice none 0 0) [] W (Flds.nil _ _ _) fdsOk_nil)
  rw [e1] at HA
  rw [e2] at HB
  rw [e3] at HC
  clear e1 e2 e3
  go_enter Tryz.func8, Tryz.ntmps8
  go_wp2_with fail
  refine (HA.out _).mono ?_
  rintro x1 w1 ⟨rfl, h1⟩
  have KA := Lib.hid (Blk.new w1 #[.int .i64 3, .int .i64 0] 28)
  have B1 := Lib.hid (h1.alloc h1.size (.cells #[.int .i64 3, .int .i64 0] 28))
  clear h1
  go_wp2_with fail
  refine (HB.out _).mono ?_
  rintro x2 w2 ⟨rfl, h2⟩
  have KA2 := Lib.hid ((KA.out.call h2).alloc (.cells #[.int .i64 0, .int .i64 0] 28))
  have KB := Lib.hid (Blk.new w2 #[.int .i64 0, .int .i64 0] 28)
  have B2 := Lib.hid ((B1.out.trans (h2.mono B1.out.size)).alloc (Nat.le_trans B1.out.size h2.size) (.cells #[.int .i64 0, .int .i64 0] 28))
  clear h2
  go_wp2_with fail
  refine (HC.out _).mono ?_
  rintro x3 w3 ⟨rfl, h3⟩
  have KA3 := Lib.hid ((KA2.out.call h3).alloc (.cells #[.int .i64 0, .int .i64 0] 28))
  have KB3 := Lib.hid ((KB.out.call h3).alloc (.cells #[.int .i64 0, .int .i64 0] 28))
  have B3 := Lib.hid ((B2.out.trans (h3.mono B2.out.size)).alloc (Nat.le_trans B2.out.size h3.size) (.cells #[.int .i64 0, .int .i64 0] 28))
  clear h3
  have a0 := KA3.out.cell 0
  have a1 := KA3.out.cell 1
  have b0 := KB3.out.cell 0
  have b1 := KB3.out.cell 1
  simp at a0 a1 b0 b1
  go_wp2_with fail
  go_ret
  exact ⟨rfl, B3.out⟩
end Go.Proofs.YtcpjkemjpgggcaaGreatDoor
