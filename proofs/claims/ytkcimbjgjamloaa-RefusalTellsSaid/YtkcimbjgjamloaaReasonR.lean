/- The reference's Reason: what it answers for every status. -/
import Derived.Test.YtkcimbjgjamloaaReason
namespace Go.Proofs.Ytkcimbjgjamloaa
open Go.RowKit
def codeV : Array Value := #[.int .i64 100, .int .i64 400, .int .i64 408, .int .i64 413, .int .i64 417, .int .i64 431, .int .i64 501, .int .i64 502, .int .i64 504, .int .i64 505, .int .i64 508]
def whyV : Array Value := #[.string ⟨#[67, 111, 110, 116, 105, 110, 117, 101]⟩, .string ⟨#[66, 97, 100, 32, 82, 101, 113, 117, 101, 115, 116]⟩, .string ⟨#[82, 101, 113, 117, 101, 115, 116, 32, 84, 105, 109, 101, 111, 117, 116]⟩, .string ⟨#[67, 111, 110, 116, 101, 110, 116, 32, 84, 111, 111, 32, 76, 97, 114, 103, 101]⟩, .string ⟨#[69, 120, 112, 101, 99, 116, 97, 116, 105, 111, 110, 32, 70, 97, 105, 108, 101, 100]⟩, .string ⟨#[82, 101, 113, 117, 101, 115, 116, 32, 72, 101, 97, 100, 101, 114, 32, 70, 105, 101, 108, 100, 115, 32, 84, 111, 111, 32, 76, 97, 114, 103, 101]⟩, .string ⟨#[78, 111, 116, 32, 73, 109, 112, 108, 101, 109, 101, 110, 116, 101, 100]⟩, .string ⟨#[66, 97, 100, 32, 71, 97, 116, 101, 119, 97, 121]⟩, .string ⟨#[71, 97, 116, 101, 119, 97, 121, 32, 84, 105, 109, 101, 111, 117, 116]⟩, .string ⟨#[72, 84, 84, 80, 32, 86, 101, 114, 115, 105, 111, 110, 32, 78, 111, 116, 32, 83, 117, 112, 112, 111, 114, 116, 101, 100]⟩, .string ⟨#[76, 111, 111, 112, 32, 68, 101, 116, 101, 99, 116, 101, 100]⟩]
theorem codeV_get {k : Nat} {c : Int} (h : codes[k]? = some c) : codeV[k]? = some (.int .i64 c) := by
  have e : codeV = (codes.map (Value.int .i64)).toArray := rfl
  rw [e, List.getElem?_toArray, List.getElem?_map, h]; rfl
theorem whyV_get {k : Nat} {y : ByteArray} (h : whys[k]? = some y) : whyV[k]? = some (.string y) := by
  have e : whyV = (whys.map Value.string).toArray := rfl
  rw [e, List.getElem?_toArray, List.getElem?_map, h]; rfl
set_option maxHeartbeats 2000000 in
theorem rreason_any (n : Int) (w : World) : Calls Try.prog 33 #[.int .i64 n] w fun e w' => e = .returned (.string (reasonS n)) ∧ Below w.heap.size w w' := by
  obtain ⟨W, hW⟩ : ∃ W, W = (w.alloc (.cells codeV 3)).alloc (.cells whyV 9) := ⟨_, rfl⟩
  have hI : Blk W w.heap.size codeV 3 := by rw [hW]; exact (Blk.new _ _ _).alloc _
  have hS : Blk W (w.heap.size + 1) whyV 9 := by rw [hW]; exact Blk.new' (by simp)
  have HB : Hid (Below w.heap.size w W) := by show Below w.heap.size w W; rw [hW]; exact ((Below.refl _ _).alloc (Nat.le_refl _) _).alloc (by simp) _
  have HI := Lib.hid hI
  have HS := Lib.hid hS
  have HW := Lib.hid hW
  clear hI hS hW
  go_enter Try.func33, Try.ntmps33
  go_wp2_with fail
  have HW' : Hid ((w.alloc (.cells #[.int .i64 100, .int .i64 400, .int .i64 408, .int .i64 413, .int .i64 417, .int .i64 431, .int .i64 501, .int .i64 502, .int .i64 504, .int .i64 505, .int .i64 508] 3)).alloc (.cells #[.string ⟨#[67, 111, 110, 116, 105, 110, 117, 101]⟩, .string ⟨#[66, 97, 100, 32, 82, 101, 113, 117, 101, 115, 116]⟩, .string ⟨#[82, 101, 113, 117, 101, 115, 116, 32, 84, 105, 109, 101, 111, 117, 116]⟩, .string ⟨#[67, 111, 110, 116, 101, 110, 116, 32, 84, 111, 111, 32, 76, 97, 114, 103, 101]⟩, .string ⟨#[69, 120, 112, 101, 99, 116, 97, 116, 105, 111, 110, 32, 70, 97, 105, 108, 101, 100]⟩, .string ⟨#[82, 101, 113, 117, 101, 115, 116, 32, 72, 101, 97, 100, 101, 114, 32, 70, 105, 101, 108, 100, 115, 32, 84, 111, 111, 32, 76, 97, 114, 103, 101]⟩, .string ⟨#[78, 111, 116, 32, 73, 109, 112, 108, 101, 109, 101, 110, 116, 101, 100]⟩, .string ⟨#[66, 97, 100, 32, 71, 97, 116, 101, 119, 97, 121]⟩, .string ⟨#[71, 97, 116, 101, 119, 97, 121, 32, 84, 105, 109, 101, 111, 117, 116]⟩, .string ⟨#[72, 84, 84, 80, 32, 86, 101, 114, 115, 105, 111, 110, 32, 78, 111, 116, 32, 83, 117, 112, 112, 111, 114, 116, 101, 100]⟩, .string ⟨#[76, 111, 111, 112, 32, 68, 101, 116, 101, 99, 116, 101, 100]⟩] 9) = W) := HW.out.symm
  rw [HW'.out]
  clear HW HW'
  go_loop [5] (fun i => ∃ k : Nat, k ≤ 11 ∧ i = .int .i64 k ∧ ∀ j : Nat, j < k → ∀ c, codes[j]? = some c → c ≠ n) (fun i => 11 - (intOf i).toNat)
  case atStart => exact ⟨0, by omega, rfl, fun j hj => by omega⟩
  case round =>
    obtain ⟨k, hk, rfl, hall⟩ := hrel
    have HALL := Lib.hid hall
    clear hall
    by_cases hlt : k < 11
    · obtain ⟨c, y, hc, hy, hcy⟩ := reason_at k hlt
      have c1 : W.cell? ⟨w.heap.size, k, none⟩ = some (.int .i64 c) := by rw [HI.out.cell]; exact codeV_get hc
      have c2 : W.cell? ⟨w.heap.size + 1, k, none⟩ = some (.string y) := by rw [HS.out.cell]; exact whyV_get hy
      have HC := Lib.hid hc
      have HCY := Lib.hid hcy
      clear hc hy hcy
      by_cases he : c = n
      · subst he
        go_wp2_with fail
        go_ret
        rw [HCY.out]
        exact ⟨rfl, HB.out⟩
      · have he2 : (c == n) = false := by simpa using he
        have HE := Lib.hid he
        clear he
        go_wp2_with fail
        go_round
        case rel =>
          refine ⟨k + 1, by omega, by go_num, fun j hj c' hc' => ?_⟩
          by_cases hjk : j = k
          · subst hjk
            rw [HC.out] at hc'
            cases hc'
            exact HE.out
          · exact HALL.out j (by omega) c' hc'
        case measure => simp [intOf]; omega
    · obtain rfl : k = 11 := by omega
      have hN : Hid (reasonS n = ⟨#[]⟩) := reason_none HALL.out
      go_wp2_with fail
      go_ret
      rw [hN.out]
      exact ⟨rfl, HB.out⟩
end Go.Proofs.Ytkcimbjgjamloaa
