/- The reference's httpdate: what each function answers. -/
import Derived.Test.YtkcimbjgjamloaaCivilS
import Derived.Test.YtkcimbjgjamloaaText
import Derived.Test.YtkcimbjgjamloaaCl
namespace Go.Proofs.Ytkcimbjgjamloaa
open Go.RowKit Civ
/-- Hours, minutes and seconds of a part of a day. -/
def clockB (r : Int) : ByteArray := padB (r / 3600) 2 ++ ⟨#[58]⟩ ++ padB (r / 60 % 60) 2 ++ ⟨#[58]⟩ ++ padB (r % 60) 2
theorem pad_size (n wide : Int) (h : -9223372036854775808 ≤ n) (h' : n ≤ 9223372036854775807) : (padB n wide).size ≤ 90 := by
  have := textB_size n h h'
  unfold padB
  split
  · omega
  · rw [ByteArray.size_append, zerosB_size]; omega
set_option maxRecDepth 100000 in
theorem rclock_any (y m d r : Int) (hr : 0 ≤ r) (hr2 : r < 86400) (w : World) : Calls Try.prog 61 #[dateV y m d r] w fun e w' => e = .returned (.string (clockB r)) ∧ Below w.heap.size w w' := by
  obtain ⟨h, hh⟩ : ∃ k : Nat, r / 3600 = k := ⟨(r / 3600).toNat, by omega⟩
  obtain ⟨i, hi⟩ : ∃ k : Nat, r / 60 % 60 = k := ⟨(r / 60 % 60).toNat, by omega⟩
  obtain ⟨s, hs⟩ : ∃ k : Nat, r % 60 = k := ⟨(r % 60).toNat, by omega⟩
  have h1 : (h : Int) ≤ 23 := by omega
  have i1 : (i : Int) ≤ 59 := by omega
  have s1 : (s : Int) ≤ 59 := by omega
  obtain ⟨PF, hPF⟩ : ∃ P : Int → ByteArray, P = fun x => padB x 2 := ⟨_, rfl⟩
  have zh : (PF h).size ≤ 90 := by rw [hPF]; exact pad_size _ _ (by omega) (by omega)
  have zi : (PF i).size ≤ 90 := by rw [hPF]; exact pad_size _ _ (by omega) (by omega)
  have zs : (PF s).size ≤ 90 := by rw [hPF]; exact pad_size _ _ (by omega) (by omega)
  have hc : (⟨#[58]⟩ : ByteArray).size = 1 := rfl
  obtain ⟨A1, hA1⟩ : ∃ A, A = PF h ++ ⟨#[58]⟩ := ⟨_, rfl⟩
  have hs1 : A1.size = (PF h : ByteArray).size + (⟨#[58]⟩ : ByteArray).size := by rw [hA1, ByteArray.size_append]
  obtain ⟨A2, hA2⟩ : ∃ A, A = A1 ++ PF i := ⟨_, rfl⟩
  have hs2 : A2.size = (A1 : ByteArray).size + (PF i : ByteArray).size := by rw [hA2, ByteArray.size_append]
  obtain ⟨A3, hA3⟩ : ∃ A, A = A2 ++ ⟨#[58]⟩ := ⟨_, rfl⟩
  have hs3 : A3.size = (A2 : ByteArray).size + (⟨#[58]⟩ : ByteArray).size := by rw [hA3, ByteArray.size_append]
  obtain ⟨A4, hA4⟩ : ∃ A, A = A3 ++ PF s := ⟨_, rfl⟩
  have hs4 : A4.size = (A3 : ByteArray).size + (PF s : ByteArray).size := by rw [hA4, ByteArray.size_append]
  have hadd1 : ∀ W : World, (Op.stringOp .add (PF h) (⟨#[58]⟩)).run Try.prog W = .ok (.string A1) W := fun W => (run_string_add_sum (P := Try.prog) (w := W) (PF h) (⟨#[58]⟩) (by omega)).trans (by rw [← hA1])
  have hadd2 : ∀ W : World, (Op.stringOp .add (A1) (PF i)).run Try.prog W = .ok (.string A2) W := fun W => (run_string_add_sum (P := Try.prog) (w := W) (A1) (PF i) (by omega)).trans (by rw [← hA2])
  have hadd3 : ∀ W : World, (Op.stringOp .add (A2) (⟨#[58]⟩)).run Try.prog W = .ok (.string A3) W := fun W => (run_string_add_sum (P := Try.prog) (w := W) (A2) (⟨#[58]⟩) (by omega)).trans (by rw [← hA3])
  have hadd4 : ∀ W : World, (Op.stringOp .add (A3) (PF s)).run Try.prog W = .ok (.string A4) W := fun W => (run_string_add_sum (P := Try.prog) (w := W) (A3) (PF s) (by omega)).trans (by rw [← hA4])
  have HV : Hid (clockB r = A4) := by show clockB r = A4; unfold clockB; rw [hh, hi, hs, hA4, hA3, hA2, hA1, hPF]
  have HP : Hid (∀ (x : Int) (h : -9223372036854775808 ≤ x) (h' : x ≤ 9223372036854775807) (W : World), Calls Try.prog 60 #[.int .i64 x, .int .i64 2] W fun e w' => e = .returned (.string (PF x)) ∧ Below W.heap.size W w') := fun x h h' W => (rpad_any x 2 h h' W).mono fun e w' ⟨a, k, b⟩ => ⟨by rw [a, hPF], by rw [← b]; exact ⟨rfl, rfl, rfl, Nat.le_refl _, fun _ _ => rfl⟩⟩
  unfold dateV
  rw [hh, hi, hs]
  obtain ⟨I, hIe⟩ : ∃ I : World → Prop, I = fun v => Blk v w.heap.size #[.int .i64 y, .int .i64 m, .int .i64 d, .int .i64 h, .int .i64 i, .int .i64 s] 73 ∧ Below w.heap.size w v := ⟨_, rfl⟩
  have HIO := Lib.hid (show ∀ v, I v → Blk v w.heap.size #[.int .i64 y, .int .i64 m, .int .i64 d, .int .i64 h, .int .i64 i, .int .i64 s] 73 ∧ Below w.heap.size w v by rw [hIe]; exact fun _ h => h)
  have HIM : Hid (∀ v v', I v → Below v.heap.size v v' → I v') := by
    show ∀ v v', I v → Below v.heap.size v v' → I v'
    rw [hIe]
    exact fun v v' h hb => ⟨h.1.call hb, h.2.trans (hb.mono h.2.size)⟩
  have hI0 : I (w.alloc (.cells #[.int .i64 y, .int .i64 m, .int .i64 d, .int .i64 h, .int .i64 i, .int .i64 s] 73)).drew := by rw [hIe]; exact ⟨(Blk.new _ _ _).drew, ((Below.refl _ _).alloc (Nat.le_refl _) _).drew⟩
  have NI : Nonempty (Cl I) := ⟨⟨_, hI0⟩⟩
  have HI0 := Lib.hid hI0
  have q3 : ∀ s' : Cl I, s'.val.cell? ⟨w.heap.size, 3, none⟩ = some (.int .i64 h) := fun s' => (HIO.out _ s'.ok).1.cell 3
  have q4 : ∀ s' : Cl I, s'.val.cell? ⟨w.heap.size, 4, none⟩ = some (.int .i64 i) := fun s' => (HIO.out _ s'.ok).1.cell 4
  have q5 : ∀ s' : Cl I, s'.val.cell? ⟨w.heap.size, 5, none⟩ = some (.int .i64 s) := fun s' => (HIO.out _ s'.ok).1.cell 5
  clear hA1 hs1 hA2 hs2 hA3 hs3 hA4 hs4 hPF hh hi hs hr hr2 hIe hI0 zh zi zs hc
  go_enter Try.func61, Try.ntmps61
  go_wp2_with fail
  refine wp_region_cl HI0.out (by kernel_rfl) (by kernel_rfl) ?_
  repeat go_big_quiet_step ((go_at_call 60; exact Calls.cl_of ((HP.out _ (by omega) (by omega) _).mono fun _ _ ⟨a, b⟩ => ⟨a, HIM.out _ _ (Cl.ok _) b⟩)))
  refine wpQuiet_nil ?_
  rintro _ ⟨s', rfl⟩
  go_wp2_with fail
  go_ret
  rw [HV.out]
  exact ⟨rfl, (HIO.out _ s'.ok).2⟩
theorem rdays_row (w : World) : Calls Try.prog 57 #[] w fun e w' => e = .returned (.slice (some ⟨w.heap.size, 0, none⟩) 7 7) ∧ w.alloc (.cells #[.string ⟨#[83, 117, 110, 100, 97, 121]⟩, .string ⟨#[77, 111, 110, 100, 97, 121]⟩, .string ⟨#[84, 117, 101, 115, 100, 97, 121]⟩, .string ⟨#[87, 101, 100, 110, 101, 115, 100, 97, 121]⟩, .string ⟨#[84, 104, 117, 114, 115, 100, 97, 121]⟩, .string ⟨#[70, 114, 105, 100, 97, 121]⟩, .string ⟨#[83, 97, 116, 117, 114, 100, 97, 121]⟩] 9) = w' := by
  go_enter Try.func57, Try.ntmps57
  go_wp2_with fail
  go_ret
  exact ⟨rfl, rfl⟩
theorem rmonths_row (w : World) : Calls Try.prog 59 #[] w fun e w' => e = .returned (.slice (some ⟨w.heap.size, 0, none⟩) 12 12) ∧ w.alloc (.cells #[.string ⟨#[74, 97, 110]⟩, .string ⟨#[70, 101, 98]⟩, .string ⟨#[77, 97, 114]⟩, .string ⟨#[65, 112, 114]⟩, .string ⟨#[77, 97, 121]⟩, .string ⟨#[74, 117, 110]⟩, .string ⟨#[74, 117, 108]⟩, .string ⟨#[65, 117, 103]⟩, .string ⟨#[83, 101, 112]⟩, .string ⟨#[79, 99, 116]⟩, .string ⟨#[78, 111, 118]⟩, .string ⟨#[68, 101, 99]⟩] 9) = w' := by
  go_enter Try.func59, Try.ntmps59
  go_wp2_with fail
  go_ret
  exact ⟨rfl, rfl⟩
set_option maxRecDepth 100000 in
theorem rday_any {n y m d : Int} (r : Int) (hd : IsDate n y m d) (w : World) : Calls Try.prog 58 #[dateV y m d r] w fun e w' => e = .returned (.int .i64 (weekD n)) ∧ Below w.heap.size w w' := by
  have HD := Lib.hid (fun W => rdays_any hd W)
  have HK := Lib.hid (fun W => rweekday_any n W)
  clear hd
  unfold dateV
  obtain ⟨r1, h1⟩ : ∃ x, r / 3600 = x := ⟨_, rfl⟩
  obtain ⟨r2, h2⟩ : ∃ x, r / 60 % 60 = x := ⟨_, rfl⟩
  obtain ⟨r3, h3⟩ : ∃ x, r % 60 = x := ⟨_, rfl⟩
  rw [h1, h2, h3]
  clear h1 h2 h3
  go_enter Try.func58, Try.ntmps58
  go_wp2_with (first | (go_at_call 82; refine (HD.out _).mono ?_; rintro e' w' ⟨rfl, rfl⟩) | (go_at_call 83; refine (HK.out _).mono ?_; rintro e' w' ⟨rfl, rfl⟩))
  go_ret
  exact ⟨rfl, (Below.refl _ _).alloc (Nat.le_refl _) _⟩
end Go.Proofs.Ytkcimbjgjamloaa
