/- Texts packed for one claim, 28 of 52: Field. -/
import Derived.Test.YtaojfiegnebbdaaGreatDoorMbkQ4
import Derived.Test.YtaojfiegnebbdaaGreatDoorMbkQ3
import Derived.Test.YtaojfiegnebbdaaGreatDoorMbkQ7
set_option maxRecDepth 100000
set_option maxHeartbeats 16000000
set_option linter.unusedSimpArgs false
set_option linter.unusedVariables false
-- Field
namespace Go.Proofs.YtaojfiegnebbdaaGreatDoor
open Go.RowKit
def fieldR (n v : ByteArray) : Bool := tokL n.data.toList && (valL v.data.toList && (trimB v).toList == v.toList)
def flineB (n v : ByteArray) : ByteArray := if v.size = 0 then n ++ ⟨#[58]⟩ else n ++ ⟨#[58, 32]⟩ ++ v
theorem empty_list2 (s : ByteArray) : s.toList.isEmpty = decide (s.size = 0) := by
 rw [isEmpty_list, Bool.eq_iff_iff, decide_eq_true_eq, List.isEmpty_iff]
 constructor
 ·intro h
  have : s.data.toList.length = 0 := by rw [h]; rfl
  simpa using this
 ·intro h
  apply List.eq_nil_of_length_eq_zero
  simpa using h
theorem flineB_size (n v : ByteArray) : (flineB n v).size ≤ n.size + v.size + 2 := by
 unfold flineB
 split
 ·rw [ByteArray.size_append]; show n.size + 1 ≤ _; omega
 ·rw [ByteArray.size_append, ByteArray.size_append]; show n.size + 2 + v.size ≤ _; omega
theorem fright_any (n v : ByteArray) (hn : n.size ≤ 9223372036854775807) (hv : v.size ≤ 9223372036854775807) (w : World) : Calls Tryz.prog 66 #[.agg #[.string n, .string v]] w fun e w' => e = .returned (.bool (fieldR n v)) ∧ Below w.heap.size w w' := by
 obtain ⟨p1, h1⟩ : ∃ p, tokL n.data.toList = p := ⟨_, rfl⟩
 obtain ⟨p2, h2⟩ : ∃ p, valL v.data.toList = p := ⟨_, rfl⟩
 obtain ⟨T, hT⟩ : ∃ T, T = trimB v := ⟨_, rfl⟩
 obtain ⟨p3, h3⟩ : ∃ p, (T.toList == v.toList) = p := ⟨_, rfl⟩
 have HR : Hid (fieldR n v = (p1 && (p2 && p3))) := by show fieldR n v = _; unfold fieldR; rw [← hT, h1, h2, h3]
 have H1 : Hid (∀ W : World, Calls Tryz.prog 106 #[.string n] W fun e w' => e = .returned (.bool p1) ∧ Below W.heap.size W w') := fun W => by rw [← h1]; exact token_any n hn W
 have H2 : Hid (∀ W : World, Calls Tryz.prog 107 #[.string v] W fun e w' => e = .returned (.bool p2) ∧ Below W.heap.size W w') := fun W => by rw [← h2]; exact value_any v hv W
 have H3 : Hid (∀ W : World, Calls Tryz.prog 108 #[.string v] W fun e w' => e = .returned (.string T) ∧ W = w') := fun W => by rw [hT]; exact trim_any v hv W
 obtain ⟨I, hIe⟩ : ∃ I : World → Prop, I = fun x => Blk x w.heap.size #[.string n, .string v] 75 ∧ Below w.heap.size w x := ⟨_, rfl⟩
 have HIO := lH (show ∀ x, I x → Blk x w.heap.size #[.string n, .string v] 75 ∧ Below w.heap.size w x by rw [hIe]; exact fun _ h => h)
 have HIM : Hid (∀ x x', I x → Below x.heap.size x x' → I x') := by
  show ∀ x x', I x → Below x.heap.size x x' → I x'
  rw [hIe]
  exact fun x x' h hb => ⟨h.1.call hb, h.2.trans (hb.mono h.2.size)⟩
 have hI0 : I (w.alloc (.cells #[.string n, .string v] 75)).drew := by rw [hIe]; exact ⟨(Blk.new _ _ _).drew, ((Below.refl _ _).alloc (nR _) _).drew⟩
 have NI : Nonempty (Cl I) := ⟨⟨_, hI0⟩⟩
 have HI0 := lH hI0
 have q0 : ∀ s : Cl I, s.val.cell? ⟨w.heap.size, 0, none⟩ = some (.string n) := fun s => (HIO.out _ s.ok).1.cell 0
 have q1 : ∀ s : Cl I, s.val.cell? ⟨w.heap.size, 1, none⟩ = some (.string v) := fun s => (HIO.out _ s.ok).1.cell 1
 clear hn hv h1 h2 hT hIe hI0
 have hc : p1 = false ∨ (p1 = true ∧ p2 = false) ∨ (p1 = true ∧ p2 = true) := by cases p1 <;> cases p2 <;> simp
 rcases hc with rfl | ⟨rfl, rfl⟩ | ⟨rfl, rfl⟩
 all_goals
  go_enter Tryz.func66, Tryz.ntmps66
  go_wp2_with fail
  refine wp_region_cl HI0.out (by kernel_rfl) (by kernel_rfl) ?_
  repeat go_big_quiet_step ((first
   | (go_at_call 106; exact Calls.cl_of ((H1.out _).mono fun _ _ ⟨a, b⟩ => ⟨a, HIM.out _ _ (Cl.ok _) b⟩))
   | (go_at_call 107; exact Calls.cl_of ((H2.out _).mono fun _ _ ⟨a, b⟩ => ⟨a, HIM.out _ _ (Cl.ok _) b⟩))
   | (go_at_call 108; exact Calls.cl_same (H3.out _))))
  refine wpQuiet_nil ?_
  rintro _ ⟨s, rfl⟩
  go_wp2_with fail
  go_ret
  rw [HR.out]
  first
   | exact ⟨rfl, (HIO.out _ s.ok).2⟩
   | (refine ⟨?_, (HIO.out _ s.ok).2⟩; rw [← h3]; rfl)
theorem fline_any (n v : ByteArray) (hn : n.size ≤ 1000000000) (hv : v.size ≤ 1000000000) (w : World) : Calls Tryz.prog 77 #[.agg #[.string n, .string v]] w fun e w' => e = .returned (.string (flineB n v)) ∧ Below w.heap.size w w' := by
 obtain ⟨A, hA⟩ : ∃ A, A = n ++ ⟨#[58]⟩ := ⟨_, rfl⟩
 have hAs : A.size = n.size + 1 := by rw [hA, ByteArray.size_append]; rfl
 have a1 : ∀ W : World, (Op.stringOp .add n ⟨#[58]⟩).run Tryz.prog W = .ok (.string A) W := fun W => (run_string_add_sum (P := Tryz.prog) (w := W) n ⟨#[58]⟩ (by show n.size + 1 ≤ _; omega)).trans (by rw [← hA])
 by_cases h0 : v.size = 0
 ·have he : v.toList.isEmpty = true := by rw [empty_list2]; exact dT h0
  have HR : Hid (flineB n v = A) := by show flineB n v = A; unfold flineB; rw [if_pos h0, hA]
  clear hA hAs hn hv h0
  go_enter Tryz.func77, Tryz.ntmps77
  go_wp2_with fail
  go_ret
  rw [HR.out]
  exact ⟨rfl, (Below.refl _ _).alloc (nR _) _⟩
 ·have he : v.toList.isEmpty = false := by rw [empty_list2]; exact dF h0
  obtain ⟨B, hB⟩ : ∃ B, B = n ++ ⟨#[58, 32]⟩ := ⟨_, rfl⟩
  have hBs : B.size = n.size + 2 := by rw [hB, ByteArray.size_append]; rfl
  have a2 : ∀ W : World, (Op.stringOp .add n ⟨#[58, 32]⟩).run Tryz.prog W = .ok (.string B) W := fun W => (run_string_add_sum (P := Tryz.prog) (w := W) n ⟨#[58, 32]⟩ (by show n.size + 2 ≤ _; omega)).trans (by rw [← hB])
  have HR : Hid (flineB n v = B ++ v) := by show flineB n v = _; unfold flineB; rw [if_neg h0, hB]
  have a3 := fun (W : World) => run_string_add_sum (P := Tryz.prog) (w := W) B v (by omega)
  clear hA hAs hn hv h0 hB hBs
  go_enter Tryz.func77, Tryz.ntmps77
  go_wp2_with fail
  go_ret
  rw [HR.out]
  exact ⟨rfl, (Below.refl _ _).alloc (nR _) _⟩
end Go.Proofs.YtaojfiegnebbdaaGreatDoor