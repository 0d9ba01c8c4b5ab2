/- Layer 15: Line and the reference's Line: the same text, for every head. -/
import Derived.Test.YtmoofcmmpemdcaaGreatDoorStart
import Derived.Test.YtmoofcmmpemdcaaGreatDoorText
import Derived.Test.YtmoofcmmpemdcaaGreatDoorCl
set_option linter.unusedSimpArgs false
set_option linter.unusedVariables false
namespace Go.Proofs.YtmoofcmmpemdcaaGreatDoor
open Go.RowKit
def verB (k : Int) : ByteArray := if k ≤ 0 then ⟨#[72, 84, 84, 80, 47, 49, 46, 48]⟩ else ⟨#[72, 84, 84, 80, 47, 49, 46, 49]⟩
def sp1 : ByteArray := ⟨#[32]⟩
/-- A head's first line. -/
def lineB (m t : ByteArray) (k n : Int) (r : ByteArray) : ByteArray :=
  if m.size = 0 then verB k ++ sp1 ++ padB n 3 ++ sp1 ++ r else m ++ sp1 ++ t ++ sp1 ++ verB k
theorem verB_size (k : Int) : (verB k).size = 8 := by unfold verB; split <;> rfl
theorem sversion_at {k : Int} {V : ByteArray} (h : V = verB k) (w : World) : Calls Tryz.prog 120 #[.int .i64 k] w fun e w' => e = .returned (.string V) ∧ w = w' := by
  subst h; exact sversion_any k w
theorem pad3_at {n : Int} {p : ByteArray} (h : -9223372036854775808 ≤ n) (h' : n ≤ 9223372036854775807) (hp : p = padB n 3) (w : World) : Calls Tryz.prog 121 #[.int .i64 n, .int .i64 3] w fun e w' => e = .returned (.string p) ∧ Below w.heap.size w w' := by
  subst hp; exact pad_any n 3 h h' (by decide) (by decide) w
theorem padB_size (n : Int) (h : -9223372036854775808 ≤ n) (h' : n ≤ 9223372036854775807) : (padB n 3).size ≤ 90 := by
  have := textB_size n h h'
  unfold padB
  split
  · omega
  · rw [ByteArray.size_append, zerosB_size]; omega
theorem empty_list (s : ByteArray) : s.toList.isEmpty = decide (s.size = 0) := by
  rw [isEmpty_list, Bool.eq_iff_iff, decide_eq_true_eq, List.isEmpty_iff]
  constructor
  · intro h
    have : s.data.toList.length = 0 := by rw [h]; rfl
    simpa using this
  · intro h
    apply List.eq_nil_of_length_eq_zero
    simpa using h
set_option maxRecDepth 100000 in
set_option maxHeartbeats 4000000 in
theorem line_req (m t r : ByteArray) (k n : Int) (f : Value) (hm : m.size ≤ 1000000) (ht : t.size ≤ 1000000) (hr : r.size ≤ 1000000) (hn : -9223372036854775808 ≤ n) (hn' : n ≤ 9223372036854775807) (hmz : m.size ≠ 0) (w : World) :
    Calls Tryz.prog 65 #[.agg #[.string m, .string t, .int .i64 k, .int .i64 n, .string r, f]] w fun e w' => e = .returned (.string (lineB m t k n r)) ∧ Below w.heap.size w w' := by
  obtain ⟨V, hV⟩ : ∃ V, V = verB k := ⟨_, rfl⟩
  have hVs : V.size = 8 := by rw [hV]; exact verB_size k
  obtain ⟨p, hp⟩ : ∃ p, p = padB n 3 := ⟨_, rfl⟩
  have hps : p.size ≤ 90 := by rw [hp]; exact padB_size n hn hn'
  have hss : sp1.size = 1 := rfl
  obtain ⟨S, hS⟩ : ∃ S, S = sp1 := ⟨_, rfl⟩
  have hSs : S.size = 1 := by rw [hS]; rfl
  obtain ⟨A1, hA1⟩ : ∃ A, A = m ++ S := ⟨_, rfl⟩
  have hs1 : A1.size = m.size + S.size := by rw [hA1, ByteArray.size_append]
  obtain ⟨A2, hA2⟩ : ∃ A, A = A1 ++ t := ⟨_, rfl⟩
  have hs2 : A2.size = A1.size + t.size := by rw [hA2, ByteArray.size_append]
  obtain ⟨A3, hA3⟩ : ∃ A, A = A2 ++ S := ⟨_, rfl⟩
  have hs3 : A3.size = A2.size + S.size := by rw [hA3, ByteArray.size_append]
  obtain ⟨A4, hA4⟩ : ∃ A, A = A3 ++ V := ⟨_, rfl⟩
  have hs4 : A4.size = A3.size + V.size := by rw [hA4, ByteArray.size_append]
  have HR : Hid (lineB m t k n r = A4) := by show lineB m t k n r = A4; unfold lineB; rw [if_neg hmz, hA4, hA3, hA2, hA1, hS, hV]
  have hadd1 : ∀ W : World, (Op.stringOp .add m S).run Tryz.prog W = .ok (.string A1) W := fun W => (run_string_add_sum (P := Tryz.prog) (w := W) m S (by omega)).trans (by rw [← hA1])
  have hadd2 : ∀ W : World, (Op.stringOp .add A1 t).run Tryz.prog W = .ok (.string A2) W := fun W => (run_string_add_sum (P := Tryz.prog) (w := W) A1 t (by omega)).trans (by rw [← hA2])
  have hadd3 : ∀ W : World, (Op.stringOp .add A2 S).run Tryz.prog W = .ok (.string A3) W := fun W => (run_string_add_sum (P := Tryz.prog) (w := W) A2 S (by omega)).trans (by rw [← hA3])
  have hadd4 : ∀ W : World, (Op.stringOp .add A3 V).run Tryz.prog W = .ok (.string A4) W := fun W => (run_string_add_sum (P := Tryz.prog) (w := W) A3 V (by omega)).trans (by rw [← hA4])
  have hadd1' : ∀ W : World, (Op.stringOp .add m ⟨#[32]⟩).run Tryz.prog W = .ok (.string A1) W := by rw [hS] at hadd1; exact hadd1
  clear hadd1
  have hadd3' : ∀ W : World, (Op.stringOp .add A2 ⟨#[32]⟩).run Tryz.prog W = .ok (.string A3) W := by rw [hS] at hadd3; exact hadd3
  clear hadd3
  have hme : m.toList.isEmpty = false := by rw [empty_list]; exact decide_eq_false hmz
  obtain ⟨I, hIe⟩ : ∃ I : World → Prop, I = fun v => Blk v w.heap.size #[.string m, .string t, .int .i64 k, .int .i64 n, .string r, f] 24 ∧ Below w.heap.size w v := ⟨_, rfl⟩
  have HIO := Lib.hid (show ∀ v, I v → Blk v w.heap.size #[.string m, .string t, .int .i64 k, .int .i64 n, .string r, f] 24 ∧ Below w.heap.size w v by rw [hIe]; exact fun _ h => h)
  have HIM : Hid (∀ v v', I v → Below v.heap.size v v' → I v') := by
    show ∀ v v', I v → Below v.heap.size v v' → I v'
    rw [hIe]
    exact fun v v' h hb => ⟨h.1.call hb, h.2.trans (hb.mono h.2.size)⟩
  have hI0 : I (w.alloc (.cells #[.string m, .string t, .int .i64 k, .int .i64 n, .string r, f] 24)).drew := by rw [hIe]; exact ⟨(Blk.new _ _ _).drew, ((Below.refl _ _).alloc (Nat.le_refl _) _).drew⟩
  have NI : Nonempty (Cl I) := ⟨⟨_, hI0⟩⟩
  have HI0 := Lib.hid hI0
  have q0 : ∀ s : Cl I, s.val.cell? ⟨w.heap.size, 0, none⟩ = some (.string m) := fun s => (HIO.out _ s.ok).1.cell 0
  have q1 : ∀ s : Cl I, s.val.cell? ⟨w.heap.size, 1, none⟩ = some (.string t) := fun s => (HIO.out _ s.ok).1.cell 1
  have q2 : ∀ s : Cl I, s.val.cell? ⟨w.heap.size, 2, none⟩ = some (.int .i64 k) := fun s => (HIO.out _ s.ok).1.cell 2
  have q3 : ∀ s : Cl I, s.val.cell? ⟨w.heap.size, 3, none⟩ = some (.int .i64 n) := fun s => (HIO.out _ s.ok).1.cell 3
  have q4 : ∀ s : Cl I, s.val.cell? ⟨w.heap.size, 4, none⟩ = some (.string r) := fun s => (HIO.out _ s.ok).1.cell 4
  have HV := Lib.hid hV
  have HP := Lib.hid hp
  have HN := Lib.hid hn
  have HN' := Lib.hid hn'
  clear hA1 hs1 hA2 hs2 hA3 hs3 hA4 hs4 hV hp hps hss hSs hVs hS hIe hI0 hm ht hr hn hn' hmz
  go_enter Tryz.func65, Tryz.ntmps65
  go_wp2_with fail
  refine wp_region_cl HI0.out (by kernel_rfl) (by kernel_rfl) ?_
  repeat go_big_quiet_step ((first
    | (go_at_call 120; exact Calls.cl_same (sversion_at HV.out _))))
  refine wpQuiet_nil ?_
  rintro _ ⟨s, rfl⟩
  go_wp2_with fail
  go_ret
  rw [HR.out]
  exact ⟨rfl, (HIO.out _ s.ok).2⟩
set_option maxRecDepth 100000 in
set_option maxHeartbeats 4000000 in
theorem line_stat (m t r : ByteArray) (k n : Int) (f : Value) (hm : m.size ≤ 1000000) (ht : t.size ≤ 1000000) (hr : r.size ≤ 1000000) (hn : -9223372036854775808 ≤ n) (hn' : n ≤ 9223372036854775807) (hmz : m.size = 0) (w : World) :
    Calls Tryz.prog 65 #[.agg #[.string m, .string t, .int .i64 k, .int .i64 n, .string r, f]] w fun e w' => e = .returned (.string (lineB m t k n r)) ∧ Below w.heap.size w w' := by
  obtain ⟨V, hV⟩ : ∃ V, V = verB k := ⟨_, rfl⟩
  have hVs : V.size = 8 := by rw [hV]; exact verB_size k
  obtain ⟨p, hp⟩ : ∃ p, p = padB n 3 := ⟨_, rfl⟩
  have hps : p.size ≤ 90 := by rw [hp]; exact padB_size n hn hn'
  have hss : sp1.size = 1 := rfl
  obtain ⟨S, hS⟩ : ∃ S, S = sp1 := ⟨_, rfl⟩
  have hSs : S.size = 1 := by rw [hS]; rfl
  obtain ⟨A1, hA1⟩ : ∃ A, A = V ++ S := ⟨_, rfl⟩
  have hs1 : A1.size = V.size + S.size := by rw [hA1, ByteArray.size_append]
  obtain ⟨A2, hA2⟩ : ∃ A, A = A1 ++ p := ⟨_, rfl⟩
  have hs2 : A2.size = A1.size + p.size := by rw [hA2, ByteArray.size_append]
  obtain ⟨A3, hA3⟩ : ∃ A, A = A2 ++ S := ⟨_, rfl⟩
  have hs3 : A3.size = A2.size + S.size := by rw [hA3, ByteArray.size_append]
  obtain ⟨A4, hA4⟩ : ∃ A, A = A3 ++ r := ⟨_, rfl⟩
  have hs4 : A4.size = A3.size + r.size := by rw [hA4, ByteArray.size_append]
  have HR : Hid (lineB m t k n r = A4) := by show lineB m t k n r = A4; unfold lineB; rw [if_pos hmz, hA4, hA3, hA2, hA1, hS, hV, hp]
  have hadd1 : ∀ W : World, (Op.stringOp .add V S).run Tryz.prog W = .ok (.string A1) W := fun W => (run_string_add_sum (P := Tryz.prog) (w := W) V S (by omega)).trans (by rw [← hA1])
  have hadd2 : ∀ W : World, (Op.stringOp .add A1 p).run Tryz.prog W = .ok (.string A2) W := fun W => (run_string_add_sum (P := Tryz.prog) (w := W) A1 p (by omega)).trans (by rw [← hA2])
  have hadd3 : ∀ W : World, (Op.stringOp .add A2 S).run Tryz.prog W = .ok (.string A3) W := fun W => (run_string_add_sum (P := Tryz.prog) (w := W) A2 S (by omega)).trans (by rw [← hA3])
  have hadd4 : ∀ W : World, (Op.stringOp .add A3 r).run Tryz.prog W = .ok (.string A4) W := fun W => (run_string_add_sum (P := Tryz.prog) (w := W) A3 r (by omega)).trans (by rw [← hA4])
  have hadd1' : ∀ W : World, (Op.stringOp .add V ⟨#[32]⟩).run Tryz.prog W = .ok (.string A1) W := by rw [hS] at hadd1; exact hadd1
  clear hadd1
  have hadd3' : ∀ W : World, (Op.stringOp .add A2 ⟨#[32]⟩).run Tryz.prog W = .ok (.string A3) W := by rw [hS] at hadd3; exact hadd3
  clear hadd3
  have hme : m.toList.isEmpty = true := by rw [empty_list]; exact decide_eq_true hmz
  obtain ⟨I, hIe⟩ : ∃ I : World → Prop, I = fun v => Blk v w.heap.size #[.string m, .string t, .int .i64 k, .int .i64 n, .string r, f] 24 ∧ Below w.heap.size w v := ⟨_, rfl⟩
  have HIO := Lib.hid (show ∀ v, I v → Blk v w.heap.size #[.string m, .string t, .int .i64 k, .int .i64 n, .string r, f] 24 ∧ Below w.heap.size w v by rw [hIe]; exact fun _ h => h)
  have HIM : Hid (∀ v v', I v → Below v.heap.size v v' → I v') := by
    show ∀ v v', I v → Below v.heap.size v v' → I v'
    rw [hIe]
    exact fun v v' h hb => ⟨h.1.call hb, h.2.trans (hb.mono h.2.size)⟩
  have hI0 : I (w.alloc (.cells #[.string m, .string t, .int .i64 k, .int .i64 n, .string r, f] 24)).drew := by rw [hIe]; exact ⟨(Blk.new _ _ _).drew, ((Below.refl _ _).alloc (Nat.le_refl _) _).drew⟩
  have NI : Nonempty (Cl I) := ⟨⟨_, hI0⟩⟩
  have HI0 := Lib.hid hI0
  have q0 : ∀ s : Cl I, s.val.cell? ⟨w.heap.size, 0, none⟩ = some (.string m) := fun s => (HIO.out _ s.ok).1.cell 0
  have q1 : ∀ s : Cl I, s.val.cell? ⟨w.heap.size, 1, none⟩ = some (.string t) := fun s => (HIO.out _ s.ok).1.cell 1
  have q2 : ∀ s : Cl I, s.val.cell? ⟨w.heap.size, 2, none⟩ = some (.int .i64 k) := fun s => (HIO.out _ s.ok).1.cell 2
  have q3 : ∀ s : Cl I, s.val.cell? ⟨w.heap.size, 3, none⟩ = some (.int .i64 n) := fun s => (HIO.out _ s.ok).1.cell 3
  have q4 : ∀ s : Cl I, s.val.cell? ⟨w.heap.size, 4, none⟩ = some (.string r) := fun s => (HIO.out _ s.ok).1.cell 4
  have HV := Lib.hid hV
  have HP := Lib.hid hp
  have HN := Lib.hid hn
  have HN' := Lib.hid hn'
  clear hA1 hs1 hA2 hs2 hA3 hs3 hA4 hs4 hV hp hps hss hSs hVs hS hIe hI0 hm ht hr hn hn' hmz
  go_enter Tryz.func65, Tryz.ntmps65
  go_wp2_with fail
  refine wp_region_cl HI0.out (by kernel_rfl) (by kernel_rfl) ?_
  repeat go_big_quiet_step ((first
    | (go_at_call 120; exact Calls.cl_same (sversion_at HV.out _))
    | (go_at_call 121; exact Calls.cl_of ((pad3_at HN.out HN'.out HP.out _).mono fun _ _ ⟨a, b⟩ => ⟨a, HIM.out _ _ (Cl.ok _) b⟩))))
  refine wpQuiet_nil ?_
  rintro _ ⟨s, rfl⟩
  go_wp2_with fail
  go_ret
  rw [HR.out]
  exact ⟨rfl, (HIO.out _ s.ok).2⟩
theorem line_any (m t r : ByteArray) (k n : Int) (f : Value) (hm : m.size ≤ 1000000) (ht : t.size ≤ 1000000) (hr : r.size ≤ 1000000) (hn : -9223372036854775808 ≤ n) (hn' : n ≤ 9223372036854775807) (w : World) :
    Calls Tryz.prog 65 #[.agg #[.string m, .string t, .int .i64 k, .int .i64 n, .string r, f]] w fun e w' => e = .returned (.string (lineB m t k n r)) ∧ Below w.heap.size w w' := by
  by_cases h : m.size = 0
  · exact line_stat m t r k n f hm ht hr hn hn' h w
  · exact line_req m t r k n f hm ht hr hn hn' h w
end Go.Proofs.YtmoofcmmpemdcaaGreatDoor
