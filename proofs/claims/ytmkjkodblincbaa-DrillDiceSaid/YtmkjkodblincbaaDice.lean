/- The dice of package drill and of the reference: what each call comes to, for every state. No conditions but that a state is a uint64. -/
import Derived.Test.YtmkjkodblincbaaBase
namespace Go.Proofs.Ytmkjkodblincbaa
open Go.RowKit
def stp (s : Int) : Int := IntKind.u64.wrap (s + 11400714819323198485)
def mix1 (z : Int) : Int := IntKind.u64.wrap (bits BinOp.xor IntKind.u64 z (z / 1073741824) * 13787848793156543929)
def mix2 (z : Int) : Int := IntKind.u64.wrap (bits BinOp.xor IntKind.u64 z (z / 134217728) * 10723151780598845931)
def mix3 (z : Int) : Int := bits BinOp.xor IntKind.u64 z (z / 2147483648)
def num (s : Int) : Int := mix3 (mix2 (mix1 (stp s)))
theorem u64_rng (y : Int) : 0 ≤ IntKind.u64.wrap y ∧ IntKind.u64.wrap y ≤ 18446744073709551615 := by rw [IntKind.wrap_u64]; omega
theorem stp_rng (s : Int) : 0 ≤ stp s ∧ stp s ≤ 18446744073709551615 := u64_rng _
theorem bits_rng (a b : Int) : 0 ≤ bits BinOp.xor IntKind.u64 a b ∧ bits BinOp.xor IntKind.u64 a b ≤ 18446744073709551615 := by
  unfold bits; exact u64_rng _
theorem num_rng (s : Int) : 0 ≤ num s ∧ num s ≤ 18446744073709551615 := bits_rng _ _
theorem wq (c : Int) (hc : 1 ≤ c) (y : Int) : IntKind.u64.wrap ((IntKind.u64.wrap y).tdiv c) = IntKind.u64.wrap y / c := by
  have h := u64_rng y
  generalize IntKind.u64.wrap y = x at h ⊢
  rw [Int.tdiv_eq_ediv_of_nonneg h.1, IntKind.wrap_u64]
  have h1 : x / c ≤ x := Int.ediv_le_self _ h.1
  have h2 : 0 ≤ x / c := Int.ediv_nonneg h.1 (by omega)
  omega
theorem num_zero : num 0 = 16294208416658607535 := by decide +kernel

theorem refnext (s : Int) (w : World) :
    Calls Try.prog 11 #[.int .u64 s] w fun e w' => e = .returned (.tuple #[.int .u64 (stp s), .int .u64 (num s)]) ∧ w = w' := by
  have q1 := wq 1073741824 (by omega)
  have q2 := wq 134217728 (by omega)
  have q3 := wq 2147483648 (by omega)
  go_enter Try.func11, Try.ntmps11
  go_wp2
  go_ret2
  exact ⟨rfl, rfl⟩

theorem next_any (b : Nat) (s : Int) (w : World) (hc : w.cell? ⟨b, 0, none⟩ = some (.int .u64 s)) (hf : w.frozen? ⟨b, 0, none⟩ = false) :
    Calls Try.prog 12 #[.pointer (some ⟨b, 0, none⟩)] w fun e w' => e = .returned (.int .u64 (num s)) ∧ w.setCell ⟨b, 0, none⟩ (.int .u64 (stp s)) = w' := by
  go_enter Try.func12, Try.ntmps12
  go_wp2
  go_ret
  exact ⟨rfl, rfl⟩

theorem next_nil (w : World) : Calls Try.prog 12 #[.pointer none] w fun e w' => e = .returned (.int .u64 0) ∧ w = w' := by
  go_enter Try.func12, Try.ntmps12
  go_wp2
  go_ret
  exact ⟨rfl, rfl⟩

theorem new_any (n : Int) (w : World) : Calls Try.prog 9 #[.int .i64 n] w fun e w' => e = .returned (.pointer (some ⟨w.heap.size, 0, none⟩)) ∧ w.alloc (.cells #[.int .u64 (IntKind.u64.wrap n)] 75) = w' := by
  go_enter Try.func9, Try.ntmps9
  go_wp2
  go_ret
  exact ⟨rfl, rfl⟩

theorem below_low (v : Value) (n : Int) (w : World) (h : n < 1) : Calls Try.prog 10 #[v, .int .i64 n] w fun e w' => e = .returned (.int .i64 0) ∧ w = w' := by
  go_enter Try.func10, Try.ntmps10
  go_wp2
  go_ret
  exact ⟨rfl, rfl⟩

set_option maxHeartbeats 400000 in
theorem below_any (b : Nat) (s n : Int) (w : World) (h : 1 ≤ n) (hn : n ≤ 9223372036854775807) (hc : w.cell? ⟨b, 0, none⟩ = some (.int .u64 s)) (hf : w.frozen? ⟨b, 0, none⟩ = false) :
    Calls Try.prog 10 #[.pointer (some ⟨b, 0, none⟩), .int .i64 n] w fun e w' => e = .returned (.int .i64 (num s % n)) ∧ w.setCell ⟨b, 0, none⟩ (.int .u64 (stp s)) = w' := by
  have hr := num_rng s
  have h2 := Int.emod_lt_of_pos (num s) (b := n) (by omega)
  have h3 := Int.emod_nonneg (num s) (b := n) (by omega)
  go_enter Try.func10, Try.ntmps10
  go_wp2_with (go_at_call 12; refine (next_any b s _ hc hf).mono ?_; rintro e w' ⟨rfl, rfl⟩)
  go_ret
  exact ⟨rfl, rfl⟩

theorem below_nil (w : World) : Calls Try.prog 10 #[.pointer none, .int .i64 5] w fun e w' => e = .returned (.int .i64 0) ∧ w = w' := by
  go_enter Try.func10, Try.ntmps10
  go_wp2_with (go_at_call 12; refine (next_nil _).mono ?_; rintro e w' ⟨rfl, rfl⟩)
  go_ret
  exact ⟨rfl, rfl⟩

theorem dlives (w : World) : Calls Try.prog 13 #[] w fun e w' => e = .returned (.bool true) ∧ Below w.heap.size w w' := by
  have hz := num_zero
  have H : Hid (num 0 = 16294208416658607535) := hz
  clear hz
  have hq : (num 0 == 16294208416658607535) = true := by rw [H.out]; rfl
  go_enter Try.func13, Try.ntmps13
  go_wp2_with fail
  refine (new_any _ _).mono ?_
  rintro e w' ⟨rfl, rfl⟩
  go_wp2_with fail
  refine (next_any _ 0 _ ?_ ?_).mono ?_
  · simp [IntKind.wrap_u64]
  · simp
  rintro e w' ⟨rfl, rfl⟩
  go_wp2_with fail
  go_ret
  exact ⟨rfl, (Below.refl _ _).alloc (Nat.le_refl _) _⟩

end Go.Proofs.Ytmkjkodblincbaa
