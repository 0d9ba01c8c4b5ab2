/- Layer 15: the laws StartLines, StartBack: they answer true. -/
import Derived.Test.YtekbmefdaepgcaaDoorStartAsk
import Derived.Test.YtekbmefdaepgcaaDoorStartBackPlain
namespace Go.Proofs.YtekbmefdaepgcaaDoor
open Go.RowKit
set_option maxHeartbeats 2000000 in
theorem start_lines_a (m t r : ByteArray) (k n : Int) (f : Value) {mx : Int} (w : World) (hm : w.cell? ⟨0, 0, none⟩ = some (.int .i64 mx)) (h1 : 1000 < m.size) : Calls Tryd.prog 5 #[.agg #[.string m, .string t, .int .i64 k, .int .i64 n, .string r, f]] w fun e w' => e = .returned (.bool true) ∧ Below w.heap.size w w' := by
  have HM : Hid ((w.alloc (.cells #[.string m, .string t, .int .i64 k, .int .i64 n, .string r, f] 24)).cell? ⟨0, 0, none⟩ = some (.int .i64 mx)) := cell_alloc hm _
  have HB : Hid (Below w.heap.size w (w.alloc (.cells #[.string m, .string t, .int .i64 k, .int .i64 n, .string r, f] 24))) := (Below.refl _ _).alloc (Nat.le_refl _) _
  have d0 : (1000 : Int) < m.size := by omega
  clear hm h1
  go_enter Tryd.func5, Tryd.ntmps5
  go_wp2_with fail
  refine (lives15 _ HM.out).mono ?_
  rintro e' w4 ⟨rfl, hb⟩
  have B6 := Lib.hid (HB.out.trans (hb.mono HB.out.size))
  clear hb
  go_wp2_with fail
  go_ret
  exact ⟨rfl, B6.out⟩
set_option maxHeartbeats 2000000 in
theorem start_lines_b (m t r : ByteArray) (k n : Int) (f : Value) {mx : Int} (w : World) (hm : w.cell? ⟨0, 0, none⟩ = some (.int .i64 mx)) (h1 : m.size ≤ 1000) (h2 : 1000 < t.size) : Calls Tryd.prog 5 #[.agg #[.string m, .string t, .int .i64 k, .int .i64 n, .string r, f]] w fun e w' => e = .returned (.bool true) ∧ Below w.heap.size w w' := by
  have HM : Hid ((w.alloc (.cells #[.string m, .string t, .int .i64 k, .int .i64 n, .string r, f] 24)).cell? ⟨0, 0, none⟩ = some (.int .i64 mx)) := cell_alloc hm _
  have HB : Hid (Below w.heap.size w (w.alloc (.cells #[.string m, .string t, .int .i64 k, .int .i64 n, .string r, f] 24))) := (Below.refl _ _).alloc (Nat.le_refl _) _
  have d0 : decide ((1000 : Int) < m.size) = false := by rw [decide_eq_false_iff_not]; omega
  have d1 : (1000 : Int) < t.size := by omega
  clear hm h1 h2
  go_enter Tryd.func5, Tryd.ntmps5
  go_wp2_with fail
  refine (lives15 _ HM.out).mono ?_
  rintro e' w4 ⟨rfl, hb⟩
  have B6 := Lib.hid (HB.out.trans (hb.mono HB.out.size))
  clear hb
  go_wp2_with fail
  go_ret
  exact ⟨rfl, B6.out⟩
set_option maxHeartbeats 2000000 in
theorem start_lines_c (m t r : ByteArray) (k n : Int) (f : Value) {mx : Int} (w : World) (hm : w.cell? ⟨0, 0, none⟩ = some (.int .i64 mx)) (h1 : m.size ≤ 1000) (h2 : t.size ≤ 1000) (h3 : 1000 < r.size) : Calls Tryd.prog 5 #[.agg #[.string m, .string t, .int .i64 k, .int .i64 n, .string r, f]] w fun e w' => e = .returned (.bool true) ∧ Below w.heap.size w w' := by
  have HM : Hid ((w.alloc (.cells #[.string m, .string t, .int .i64 k, .int .i64 n, .string r, f] 24)).cell? ⟨0, 0, none⟩ = some (.int .i64 mx)) := cell_alloc hm _
  have HB : Hid (Below w.heap.size w (w.alloc (.cells #[.string m, .string t, .int .i64 k, .int .i64 n, .string r, f] 24))) := (Below.refl _ _).alloc (Nat.le_refl _) _
  have d0 : decide ((1000 : Int) < m.size) = false := by rw [decide_eq_false_iff_not]; omega
  have d1 : decide ((1000 : Int) < t.size) = false := by rw [decide_eq_false_iff_not]; omega
  have d2 : (1000 : Int) < r.size := by omega
  clear hm h1 h2 h3
  go_enter Tryd.func5, Tryd.ntmps5
  go_wp2_with fail
  refine (lives15 _ HM.out).mono ?_
  rintro e' w4 ⟨rfl, hb⟩
  have B6 := Lib.hid (HB.out.trans (hb.mono HB.out.size))
  clear hb
  go_wp2_with fail
  go_ret
  exact ⟨rfl, B6.out⟩
set_option maxHeartbeats 4000000 in
theorem start_lines_d (m t r : ByteArray) (k n : Int) (f : Value) {mx : Int} (w : World) (hm : w.cell? ⟨0, 0, none⟩ = some (.int .i64 mx)) (h1 : m.size ≤ 1000) (h2 : t.size ≤ 1000) (h3 : r.size ≤ 1000) (hn : -9223372036854775808 ≤ n) (hn' : n ≤ 9223372036854775807) : Calls Tryd.prog 5 #[.agg #[.string m, .string t, .int .i64 k, .int .i64 n, .string r, f]] w fun e w' => e = .returned (.bool true) ∧ Below w.heap.size w w' := by
  obtain ⟨L, hL⟩ : ∃ L, L = lineB m t k n r := ⟨_, rfl⟩
  obtain ⟨V, hV⟩ : ∃ V, V = verB k := ⟨_, rfl⟩
  have H1 : Hid (∀ W : World, Calls Tryd.prog 17 #[.agg #[.string m, .string t, .int .i64 k, .int .i64 n, .string r, f]] W fun e w' => e = .returned (.string L) ∧ Below W.heap.size W w') := fun W => by rw [hL]; exact line_any m t r k n f (by omega) (by omega) (by omega) hn hn' W
  have H2 : Hid (∀ W : World, Calls Tryd.prog 18 #[.agg #[.string m, .string t, .int .i64 k, .int .i64 n, .string r, f]] W fun e w' => e = .returned (.string L) ∧ Below W.heap.size W w') := fun W => by rw [hL]; exact rline_any m t r k n f (by omega) (by omega) (by omega) hn hn' W
  have H3 : Hid (∀ W : World, Calls Tryd.prog 19 #[.int .i64 k] W fun e w' => e = .returned (.string V) ∧ W = w') := fun W => sversion_at hV W
  have H4 : Hid (∀ W : World, Calls Tryd.prog 20 #[.int .i64 k] W fun e w' => e = .returned (.string V) ∧ W = w') := fun W => rversion_at hV W
  have H5 : Hid (∀ W : World, W.cell? ⟨0, 0, none⟩ = some (.int .i64 mx) → Calls Tryd.prog 12 #[] W fun e w' => e = .returned (.bool true) ∧ Below W.heap.size W w') := fun W h => lives15 W h
  have eL : (L.toList == L.toList) = true := by simp
  have eV : (V.toList == V.toList) = true := by simp
  have d0 : decide ((1000 : Int) < m.size) = false := by rw [decide_eq_false_iff_not]; omega
  have d1 : decide ((1000 : Int) < t.size) = false := by rw [decide_eq_false_iff_not]; omega
  have d2 : decide ((1000 : Int) < r.size) = false := by rw [decide_eq_false_iff_not]; omega
  obtain ⟨I, hIe⟩ : ∃ I : World → Prop, I = fun v => (Blk v w.heap.size #[.string m, .string t, .int .i64 k, .int .i64 n, .string r, f] 24 ∧ v.cell? ⟨0, 0, none⟩ = some (.int .i64 mx)) ∧ Below w.heap.size w v := ⟨_, rfl⟩
  have HIO := Lib.hid (show ∀ v, I v → (Blk v w.heap.size #[.string m, .string t, .int .i64 k, .int .i64 n, .string r, f] 24 ∧ v.cell? ⟨0, 0, none⟩ = some (.int .i64 mx)) ∧ Below w.heap.size w v by rw [hIe]; exact fun _ h => h)
  have HIM : Hid (∀ v v', I v → Below v.heap.size v v' → I v') := by
    show ∀ v v', I v → Below v.heap.size v v' → I v'
    rw [hIe]
    exact fun v v' h hb => ⟨⟨h.1.1.call hb, cell_below h.1.2 hb⟩, h.2.trans (hb.mono h.2.size)⟩
  have hI0 : I (w.alloc (.cells #[.string m, .string t, .int .i64 k, .int .i64 n, .string r, f] 24)).drew := by rw [hIe]; exact ⟨⟨(Blk.new _ _ _).drew, cell_alloc hm _⟩, ((Below.refl _ _).alloc (Nat.le_refl _) _).drew⟩
  have NI : Nonempty (Cl I) := ⟨⟨_, hI0⟩⟩
  have HI0 := Lib.hid hI0
  have q0 : ∀ s : Cl I, s.val.cell? ⟨w.heap.size, 0, none⟩ = some (.string m) := fun s => (HIO.out _ s.ok).1.1.cell 0
  have q1 : ∀ s : Cl I, s.val.cell? ⟨w.heap.size, 1, none⟩ = some (.string t) := fun s => (HIO.out _ s.ok).1.1.cell 1
  have q2 : ∀ s : Cl I, s.val.cell? ⟨w.heap.size, 2, none⟩ = some (.int .i64 k) := fun s => (HIO.out _ s.ok).1.1.cell 2
  have q3 : ∀ s : Cl I, s.val.cell? ⟨w.heap.size, 3, none⟩ = some (.int .i64 n) := fun s => (HIO.out _ s.ok).1.1.cell 3
  have q4 : ∀ s : Cl I, s.val.cell? ⟨w.heap.size, 4, none⟩ = some (.string r) := fun s => (HIO.out _ s.ok).1.1.cell 4
  have q5 : ∀ s : Cl I, s.val.cell? ⟨w.heap.size, 5, none⟩ = some f := fun s => (HIO.out _ s.ok).1.1.cell 5
  clear hm h1 h2 h3 hn hn' hL hV hIe hI0
  go_enter Tryd.func5, Tryd.ntmps5
  go_wp2_with fail
  refine wp_region_cl HI0.out (by kernel_rfl) (by kernel_rfl) ?_
  repeat go_big_quiet_step ((first
    | (go_at_call 17; exact Calls.cl_of ((H1.out _).mono fun _ _ ⟨a, b⟩ => ⟨a, HIM.out _ _ (Cl.ok _) b⟩))
    | (go_at_call 18; exact Calls.cl_of ((H2.out _).mono fun _ _ ⟨a, b⟩ => ⟨a, HIM.out _ _ (Cl.ok _) b⟩))
    | (go_at_call 19; exact Calls.cl_same (H3.out _))
    | (go_at_call 20; exact Calls.cl_same (H4.out _))
    | (go_at_call 12; exact Calls.cl_of ((H5.out _ (HIO.out _ (Cl.ok _)).1.2).mono fun _ _ ⟨a, b⟩ => ⟨a, HIM.out _ _ (Cl.ok _) b⟩))))
  refine wpQuiet_nil ?_
  rintro _ ⟨s, rfl⟩
  go_wp2_with fail
  go_ret
  exact ⟨rfl, (HIO.out _ s.ok).2⟩
theorem start_lines (m t r : ByteArray) (k n : Int) (f : Value) {mx : Int} (w : World) (hm : w.cell? ⟨0, 0, none⟩ = some (.int .i64 mx)) (hn : -9223372036854775808 ≤ n) (hn' : n ≤ 9223372036854775807) : Calls Tryd.prog 5 #[.agg #[.string m, .string t, .int .i64 k, .int .i64 n, .string r, f]] w fun e w' => e = .returned (.bool true) ∧ Below w.heap.size w w' := by
  by_cases h1 : m.size ≤ 1000
  · by_cases h2 : t.size ≤ 1000
    · by_cases h3 : r.size ≤ 1000
      · exact start_lines_d m t r k n f w hm h1 h2 h3 hn hn'
      · exact start_lines_c m t r k n f w hm h1 h2 (by omega)
    · exact start_lines_b m t r k n f w hm h1 (by omega)
  · exact start_lines_a m t r k n f w hm (by omega)
set_option maxHeartbeats 4000000 in
theorem start_back_nn (l : ByteArray) {s m t : ByteArray} {k e : Int} {k2 n e2 : Int} {r : ByteArray} (hs : s.size ≤ 1000) (hsl : ∀ W : World, (Instr.slice 9 (.string l) none (some (.int .i64 (min (l.size : Int) 1000))) none).run Tryd.prog W = .ok (.string s) W)
    (hq : reqRes s = ((m, t, k), e)) (hr : statRes s = ((k2, n, r), e2)) (h1 : e ≠ 0) (h2 : e2 ≠ 0) {mx : Int} (w : World) (hm : w.cell? ⟨0, 0, none⟩ = some (.int .i64 mx)) :
    Calls Tryd.prog 6 #[.string l] w fun e w' => e = .returned (.bool true) ∧ Below w.heap.size w w' := by
  have n1 : (e == 0) = false := by rw [beq_eq_false_iff_ne]; exact h1
  have n2 : (e2 == 0) = false := by rw [beq_eq_false_iff_ne]; exact h2
  have H1 : Hid (∀ W : World, W.cell? ⟨0, 0, none⟩ = some (.int .i64 mx) → Calls Tryd.prog 7 #[.string s] W fun o w' => o = .returned (.tuple #[.agg #[.string m, .string t, .int .i64 k, .int .i64 0, .string ⟨#[]⟩, .slice none 0 0], .int .i64 e]) ∧ Below W.heap.size W w') := fun W h => request_any s hs hq W h
  have H2 : Hid (∀ W : World, Calls Tryd.prog 13 #[.string s] W fun o w' => o = .returned (.tuple #[.agg #[.string ⟨#[]⟩, .string ⟨#[]⟩, .int .i64 k2, .int .i64 n, .string r, .slice none 0 0], .int .i64 e2]) ∧ Below W.heap.size W w') := fun W => status_any s hs hr W
  have HM := Lib.hid hm
  clear hm hs hq hr h1 h2
  go_enter Tryd.func6, Tryd.ntmps6
  go_wp2_with fail
  refine (H1.out _ HM.out).mono ?_
  rintro e' w1 ⟨rfl, hb⟩
  have M1 := Lib.hid (cell_alloc (cell_below HM.out hb) (.cells #[.string m, .string t, .int .i64 k, .int .i64 0, .string ⟨#[]⟩, .slice none 0 0] 24))
  have B1 := Lib.hid (Below.alloc hb hb.size (.cells #[.string m, .string t, .int .i64 k, .int .i64 0, .string ⟨#[]⟩, .slice none 0 0] 24))
  clear hb
  go_wp2_with fail
  refine (H2.out _).mono ?_
  rintro e' w5 ⟨rfl, hb⟩
  have M6 := Lib.hid (cell_alloc (cell_below M1.out hb) (.cells #[.string ⟨#[]⟩, .string ⟨#[]⟩, .int .i64 k2, .int .i64 n, .string r, .slice none 0 0] 24))
  have B6 := Lib.hid (B1.out.trans (hb.mono B1.out.size))
  have B7 := Lib.hid (B6.out.alloc B6.out.size (.cells #[.string ⟨#[]⟩, .string ⟨#[]⟩, .int .i64 k2, .int .i64 n, .string r, .slice none 0 0] 24))
  clear hb
  go_wp2_with fail
  refine (lives15 _ M6.out).mono ?_
  rintro e' w9 ⟨rfl, hb⟩
  have B12 := Lib.hid (B7.out.trans (hb.mono B7.out.size))
  clear hb
  go_wp2_with fail
  go_ret
  exact ⟨rfl, B12.out⟩
set_option maxHeartbeats 4000000 in
theorem start_back_ny (l : ByteArray) {s m t : ByteArray} {k e : Int} {k2 n e2 : Int} {r : ByteArray} (hs : s.size ≤ 1000) (hsl : ∀ W : World, (Instr.slice 9 (.string l) none (some (.int .i64 (min (l.size : Int) 1000))) none).run Tryd.prog W = .ok (.string s) W)
    (hq : reqRes s = ((m, t, k), e)) (hr : statRes s = ((k2, n, r), e2)) (h1 : e ≠ 0) (h2 : e2 = 0) {mx : Int} (w : World) (hm : w.cell? ⟨0, 0, none⟩ = some (.int .i64 mx)) :
    Calls Tryd.prog 6 #[.string l] w fun e w' => e = .returned (.bool true) ∧ Below w.heap.size w w' := by
  have n1 : (e == 0) = false := by rw [beq_eq_false_iff_ne]; exact h1
  subst h2
  have H1 : Hid (∀ W : World, W.cell? ⟨0, 0, none⟩ = some (.int .i64 mx) → Calls Tryd.prog 7 #[.string s] W fun o w' => o = .returned (.tuple #[.agg #[.string m, .string t, .int .i64 k, .int .i64 0, .string ⟨#[]⟩, .slice none 0 0], .int .i64 e]) ∧ Below W.heap.size W w') := fun W h => request_any s hs hq W h
  have H2 : Hid (∀ W : World, Calls Tryd.prog 13 #[.string s] W fun o w' => o = .returned (.tuple #[.agg #[.string ⟨#[]⟩, .string ⟨#[]⟩, .int .i64 k2, .int .i64 n, .string r, .slice none 0 0], .int .i64 0]) ∧ Below W.heap.size W w') := fun W => status_any s hs hr W
  obtain ⟨L2, hL2⟩ : ∃ L, L = lineB ⟨#[]⟩ ⟨#[]⟩ k2 n r := ⟨_, rfl⟩
  obtain ⟨c1, c2, c3, c4, c5⟩ := back_stat hr hs
  have nd : decide (n < 100) = false := by rw [decide_eq_false_iff_not]; omega
  have H5 : Hid (∀ W : World, Calls Tryd.prog 17 #[.agg #[.string ⟨#[]⟩, .string ⟨#[]⟩, .int .i64 k2, .int .i64 n, .string r, .slice none 0 0]] W fun e w' => e = .returned (.string L2) ∧ Below W.heap.size W w') := fun W => by rw [hL2]; exact line_any ⟨#[]⟩ ⟨#[]⟩ r k2 n _ (by decide) (by decide) (by omega) (by omega) (by omega) W
  have H6 : Hid (∀ W : World, Calls Tryd.prog 13 #[.string L2] W fun o w' => o = .returned (.tuple #[.agg #[.string ⟨#[]⟩, .string ⟨#[]⟩, .int .i64 k2, .int .i64 n, .string r, .slice none 0 0], .int .i64 0]) ∧ Below W.heap.size W w') := fun W => by rw [hL2]; exact status_any _ c4 c1 W
  clear hL2 c1 c2 c3 c4 c5
  have HM := Lib.hid hm
  clear hm hs hq hr h1 
  go_enter Tryd.func6, Tryd.ntmps6
  go_wp2_with fail
  refine (H1.out _ HM.out).mono ?_
  rintro e' w1 ⟨rfl, hb⟩
  have M1 := Lib.hid (cell_alloc (cell_below HM.out hb) (.cells #[.string m, .string t, .int .i64 k, .int .i64 0, .string ⟨#[]⟩, .slice none 0 0] 24))
  have B1 := Lib.hid (Below.alloc hb hb.size (.cells #[.string m, .string t, .int .i64 k, .int .i64 0, .string ⟨#[]⟩, .slice none 0 0] 24))
  clear hb
  go_wp2_with fail
  refine (H2.out _).mono ?_
  rintro e' w5 ⟨rfl, hb⟩
  have M6 := Lib.hid (cell_alloc (cell_below M1.out hb) (.cells #[.string ⟨#[]⟩, .string ⟨#[]⟩, .int .i64 k2, .int .i64 n, .string r, .slice none 0 0] 24))
  have B6 := Lib.hid (B1.out.trans (hb.mono B1.out.size))
  have B7 := Lib.hid (B6.out.alloc B6.out.size (.cells #[.string ⟨#[]⟩, .string ⟨#[]⟩, .int .i64 k2, .int .i64 n, .string r, .slice none 0 0] 24))
  clear hb
  go_wp2_with fail
  refine (H5.out _).mono ?_
  rintro e' w6 ⟨rfl, hb⟩
  have B8 := Lib.hid (B7.out.trans (hb.mono B7.out.size))
  have M8 := Lib.hid (cell_below M6.out hb)
  have K8 : Hid (Blk w6 w5.heap.size #[.string ⟨#[]⟩, .string ⟨#[]⟩, .int .i64 k2, .int .i64 n, .string r, .slice none 0 0] 24) := (Blk.new _ _ _).call hb
  clear hb
  go_wp2_with fail
  refine (H6.out _).mono ?_
  rintro e' w7 ⟨rfl, hb⟩
  obtain ⟨b, hbb⟩ : ∃ b, b = w5.heap.size := ⟨_, rfl⟩
  rw [← hbb] at K8
  rw [← hbb]
  clear hbb
  have M9 := Lib.hid (cell_alloc (cell_below M8.out hb) (.cells #[.string ⟨#[]⟩, .string ⟨#[]⟩, .int .i64 k2, .int .i64 n, .string r, .slice none 0 0] 24))
  have B9 := Lib.hid (B8.out.trans (hb.mono B8.out.size))
  have B10 := Lib.hid (B9.out.alloc B9.out.size (.cells #[.string ⟨#[]⟩, .string ⟨#[]⟩, .int .i64 k2, .int .i64 n, .string r, .slice none 0 0] 24))
  have K9 := Lib.hid ((K8.out.call hb).alloc (.cells #[.string ⟨#[]⟩, .string ⟨#[]⟩, .int .i64 k2, .int .i64 n, .string r, .slice none 0 0] 24))
  clear hb K8
  have c0 : (w7.alloc (.cells #[.string ⟨#[]⟩, .string ⟨#[]⟩, .int .i64 k2, .int .i64 n, .string r, .slice none 0 0] 24)).cell? ⟨b, 0, none⟩ = some (.string ⟨#[]⟩) := K9.out.cell 0
  have c1 : (w7.alloc (.cells #[.string ⟨#[]⟩, .string ⟨#[]⟩, .int .i64 k2, .int .i64 n, .string r, .slice none 0 0] 24)).cell? ⟨b, 1, none⟩ = some (.string ⟨#[]⟩) := K9.out.cell 1
  have c2 : (w7.alloc (.cells #[.string ⟨#[]⟩, .string ⟨#[]⟩, .int .i64 k2, .int .i64 n, .string r, .slice none 0 0] 24)).cell? ⟨b, 2, none⟩ = some (.int .i64 k2) := K9.out.cell 2
  have c3 : (w7.alloc (.cells #[.string ⟨#[]⟩, .string ⟨#[]⟩, .int .i64 k2, .int .i64 n, .string r, .slice none 0 0] 24)).cell? ⟨b, 3, none⟩ = some (.int .i64 n) := K9.out.cell 3
  have c4 : (w7.alloc (.cells #[.string ⟨#[]⟩, .string ⟨#[]⟩, .int .i64 k2, .int .i64 n, .string r, .slice none 0 0] 24)).cell? ⟨b, 4, none⟩ = some (.string r) := K9.out.cell 4
  have c5 : (w7.alloc (.cells #[.string ⟨#[]⟩, .string ⟨#[]⟩, .int .i64 k2, .int .i64 n, .string r, .slice none 0 0] 24)).cell? ⟨b, 5, none⟩ = some (.slice none 0 0) := K9.out.cell 5
  go_wp2_with fail
  refine (same_self _ _ _ _ _ _ _ _).mono ?_
  rintro e' w8 ⟨rfl, hb⟩
  have M11 := Lib.hid (cell_below M9.out hb)
  have B11 := Lib.hid (B10.out.trans (hb.mono B10.out.size))
  have K11 := Lib.hid (K9.out.call hb)
  clear hb c0 c1 c2 c3 c4 c5
  have d0 : w8.cell? ⟨b, 0, none⟩ = some (.string ⟨#[]⟩) := K11.out.cell 0
  have d1 : w8.cell? ⟨b, 1, none⟩ = some (.string ⟨#[]⟩) := K11.out.cell 1
  have d2 : w8.cell? ⟨b, 2, none⟩ = some (.int .i64 k2) := K11.out.cell 2
  have d3 : w8.cell? ⟨b, 3, none⟩ = some (.int .i64 n) := K11.out.cell 3
  have d4 : w8.cell? ⟨b, 4, none⟩ = some (.string r) := K11.out.cell 4
  have d5 : w8.cell? ⟨b, 5, none⟩ = some (.slice none 0 0) := K11.out.cell 5
  go_wp2_with fail
  refine (lives15 _ M11.out).mono ?_
  rintro e' w9 ⟨rfl, hb⟩
  have B12 := Lib.hid (B11.out.trans (hb.mono B11.out.size))
  clear hb
  go_wp2_with fail
  go_ret
  exact ⟨rfl, B12.out⟩
set_option maxHeartbeats 4000000 in
theorem start_back_yn (l : ByteArray) {s m t : ByteArray} {k e : Int} {k2 n e2 : Int} {r : ByteArray} (hs : s.size ≤ 1000) (hsl : ∀ W : World, (Instr.slice 9 (.string l) none (some (.int .i64 (min (l.size : Int) 1000))) none).run Tryd.prog W = .ok (.string s) W)
    (hq : reqRes s = ((m, t, k), e)) (hr : statRes s = ((k2, n, r), e2)) (h1 : e = 0) (h2 : e2 ≠ 0) {mx : Int} (w : World) (hm : w.cell? ⟨0, 0, none⟩ = some (.int .i64 mx)) :
    Calls Tryd.prog 6 #[.string l] w fun e w' => e = .returned (.bool true) ∧ Below w.heap.size w w' := by
  subst h1
  have n2 : (e2 == 0) = false := by rw [beq_eq_false_iff_ne]; exact h2
  have H1 : Hid (∀ W : World, W.cell? ⟨0, 0, none⟩ = some (.int .i64 mx) → Calls Tryd.prog 7 #[.string s] W fun o w' => o = .returned (.tuple #[.agg #[.string m, .string t, .int .i64 k, .int .i64 0, .string ⟨#[]⟩, .slice none 0 0], .int .i64 0]) ∧ Below W.heap.size W w') := fun W h => request_any s hs hq W h
  have H2 : Hid (∀ W : World, Calls Tryd.prog 13 #[.string s] W fun o w' => o = .returned (.tuple #[.agg #[.string ⟨#[]⟩, .string ⟨#[]⟩, .int .i64 k2, .int .i64 n, .string r, .slice none 0 0], .int .i64 e2]) ∧ Below W.heap.size W w') := fun W => status_any s hs hr W
  obtain ⟨L1, hL1⟩ : ∃ L, L = lineB m t k 0 ⟨#[]⟩ := ⟨_, rfl⟩
  obtain ⟨b1, b2, b3, b4, b5⟩ := back_req hq hs
  have me : m.toList.isEmpty = false := by rw [empty_list]; exact decide_eq_false b2
  have H3 : Hid (∀ W : World, Calls Tryd.prog 17 #[.agg #[.string m, .string t, .int .i64 k, .int .i64 0, .string ⟨#[]⟩, .slice none 0 0]] W fun e w' => e = .returned (.string L1) ∧ Below W.heap.size W w') := fun W => by rw [hL1]; exact line_any m t ⟨#[]⟩ k 0 _ (by omega) (by omega) (by decide) (by decide) (by decide) W
  have H4 : Hid (∀ W : World, W.cell? ⟨0, 0, none⟩ = some (.int .i64 mx) → Calls Tryd.prog 7 #[.string L1] W fun o w' => o = .returned (.tuple #[.agg #[.string m, .string t, .int .i64 k, .int .i64 0, .string ⟨#[]⟩, .slice none 0 0], .int .i64 0]) ∧ Below W.heap.size W w') := fun W h => by rw [hL1]; exact request_any _ b3 b1 W h
  clear hL1 b1 b2 b3 b4 b5
  have HM := Lib.hid hm
  clear hm hs hq hr h2
  go_enter Tryd.func6, Tryd.ntmps6
  go_wp2_with fail
  refine (H1.out _ HM.out).mono ?_
  rintro e' w1 ⟨rfl, hb⟩
  have M1 := Lib.hid (cell_alloc (cell_below HM.out hb) (.cells #[.string m, .string t, .int .i64 k, .int .i64 0, .string ⟨#[]⟩, .slice none 0 0] 24))
  have B1 := Lib.hid (Below.alloc hb hb.size (.cells #[.string m, .string t, .int .i64 k, .int .i64 0, .string ⟨#[]⟩, .slice none 0 0] 24))
  clear hb
  go_wp2_with fail
  refine (H3.out _).mono ?_
  rintro e' w2 ⟨rfl, hb⟩
  have M2 := Lib.hid (cell_below M1.out hb)
  have B2 := Lib.hid (B1.out.trans (hb.mono B1.out.size))
  have K2 : Hid (Blk w2 w1.heap.size #[.string m, .string t, .int .i64 k, .int .i64 0, .string ⟨#[]⟩, .slice none 0 0] 24) := (Blk.new _ _ _).call hb
  clear hb
  go_wp2_with fail
  refine (H4.out _ M2.out).mono ?_
  rintro e' w3 ⟨rfl, hb⟩
  obtain ⟨a, ha⟩ : ∃ a, a = w1.heap.size := ⟨_, rfl⟩
  rw [← ha] at K2
  rw [← ha]
  clear ha
  have M3 := Lib.hid (cell_alloc (cell_below M2.out hb) (.cells #[.string m, .string t, .int .i64 k, .int .i64 0, .string ⟨#[]⟩, .slice none 0 0] 24))
  have B3 := Lib.hid (B2.out.trans (hb.mono B2.out.size))
  have B4 := Lib.hid (B3.out.alloc B3.out.size (.cells #[.string m, .string t, .int .i64 k, .int .i64 0, .string ⟨#[]⟩, .slice none 0 0] 24))
  have K3 := Lib.hid ((K2.out.call hb).alloc (.cells #[.string m, .string t, .int .i64 k, .int .i64 0, .string ⟨#[]⟩, .slice none 0 0] 24))
  clear hb K2
  have c0 : (w3.alloc (.cells #[.string m, .string t, .int .i64 k, .int .i64 0, .string ⟨#[]⟩, .slice none 0 0] 24)).cell? ⟨a, 0, none⟩ = some (.string m) := K3.out.cell 0
  have c1 : (w3.alloc (.cells #[.string m, .string t, .int .i64 k, .int .i64 0, .string ⟨#[]⟩, .slice none 0 0] 24)).cell? ⟨a, 1, none⟩ = some (.string t) := K3.out.cell 1
  have c2 : (w3.alloc (.cells #[.string m, .string t, .int .i64 k, .int .i64 0, .string ⟨#[]⟩, .slice none 0 0] 24)).cell? ⟨a, 2, none⟩ = some (.int .i64 k) := K3.out.cell 2
  have c3 : (w3.alloc (.cells #[.string m, .string t, .int .i64 k, .int .i64 0, .string ⟨#[]⟩, .slice none 0 0] 24)).cell? ⟨a, 3, none⟩ = some (.int .i64 0) := K3.out.cell 3
  have c4 : (w3.alloc (.cells #[.string m, .string t, .int .i64 k, .int .i64 0, .string ⟨#[]⟩, .slice none 0 0] 24)).cell? ⟨a, 4, none⟩ = some (.string ⟨#[]⟩) := K3.out.cell 4
  have c5 : (w3.alloc (.cells #[.string m, .string t, .int .i64 k, .int .i64 0, .string ⟨#[]⟩, .slice none 0 0] 24)).cell? ⟨a, 5, none⟩ = some (.slice none 0 0) := K3.out.cell 5
  go_wp2_with fail
  refine (same_self _ _ _ _ _ _ _ _).mono ?_
  rintro e' w4 ⟨rfl, hb⟩
  have M5 := Lib.hid (cell_below M3.out hb)
  have B5 := Lib.hid (B4.out.trans (hb.mono B4.out.size))
  have K5 := Lib.hid (K3.out.call hb)
  clear hb c0 c1 c2 c3 c4 c5
  have d0 : w4.cell? ⟨a, 0, none⟩ = some (.string m) := K5.out.cell 0
  have d1 : w4.cell? ⟨a, 1, none⟩ = some (.string t) := K5.out.cell 1
  have d2 : w4.cell? ⟨a, 2, none⟩ = some (.int .i64 k) := K5.out.cell 2
  have d3 : w4.cell? ⟨a, 3, none⟩ = some (.int .i64 0) := K5.out.cell 3
  have d4 : w4.cell? ⟨a, 4, none⟩ = some (.string ⟨#[]⟩) := K5.out.cell 4
  have d5 : w4.cell? ⟨a, 5, none⟩ = some (.slice none 0 0) := K5.out.cell 5
  go_wp2_with fail
  refine (H2.out _).mono ?_
  rintro e' w5 ⟨rfl, hb⟩
  have M6 := Lib.hid (cell_alloc (cell_below M5.out hb) (.cells #[.string ⟨#[]⟩, .string ⟨#[]⟩, .int .i64 k2, .int .i64 n, .string r, .slice none 0 0] 24))
  have B6 := Lib.hid (B5.out.trans (hb.mono B5.out.size))
  have B7 := Lib.hid (B6.out.alloc B6.out.size (.cells #[.string ⟨#[]⟩, .string ⟨#[]⟩, .int .i64 k2, .int .i64 n, .string r, .slice none 0 0] 24))
  clear hb d0 d1 d2 d3 d4 d5
  go_wp2_with fail
  refine (lives15 _ M6.out).mono ?_
  rintro e' w9 ⟨rfl, hb⟩
  have B12 := Lib.hid (B7.out.trans (hb.mono B7.out.size))
  clear hb
  go_wp2_with fail
  go_ret
  exact ⟨rfl, B12.out⟩
set_option maxHeartbeats 4000000 in
theorem start_back_yy (l : ByteArray) {s m t : ByteArray} {k e : Int} {k2 n e2 : Int} {r : ByteArray} (hs : s.size ≤ 1000) (hsl : ∀ W : World, (Instr.slice 9 (.string l) none (some (.int .i64 (min (l.size : Int) 1000))) none).run Tryd.prog W = .ok (.string s) W)
    (hq : reqRes s = ((m, t, k), e)) (hr : statRes s = ((k2, n, r), e2)) (h1 : e = 0) (h2 : e2 = 0) {mx : Int} (w : World) (hm : w.cell? ⟨0, 0, none⟩ = some (.int .i64 mx)) :
    Calls Tryd.prog 6 #[.string l] w fun e w' => e = .returned (.bool true) ∧ Below w.heap.size w w' := by
  subst h1
  subst h2
  have H1 : Hid (∀ W : World, W.cell? ⟨0, 0, none⟩ = some (.int .i64 mx) → Calls Tryd.prog 7 #[.string s] W fun o w' => o = .returned (.tuple #[.agg #[.string m, .string t, .int .i64 k, .int .i64 0, .string ⟨#[]⟩, .slice none 0 0], .int .i64 0]) ∧ Below W.heap.size W w') := fun W h => request_any s hs hq W h
  have H2 : Hid (∀ W : World, Calls Tryd.prog 13 #[.string s] W fun o w' => o = .returned (.tuple #[.agg #[.string ⟨#[]⟩, .string ⟨#[]⟩, .int .i64 k2, .int .i64 n, .string r, .slice none 0 0], .int .i64 0]) ∧ Below W.heap.size W w') := fun W => status_any s hs hr W
  obtain ⟨L1, hL1⟩ : ∃ L, L = lineB m t k 0 ⟨#[]⟩ := ⟨_, rfl⟩
  obtain ⟨b1, b2, b3, b4, b5⟩ := back_req hq hs
  have me : m.toList.isEmpty = false := by rw [empty_list]; exact decide_eq_false b2
  have H3 : Hid (∀ W : World, Calls Tryd.prog 17 #[.agg #[.string m, .string t, .int .i64 k, .int .i64 0, .string ⟨#[]⟩, .slice none 0 0]] W fun e w' => e = .returned (.string L1) ∧ Below W.heap.size W w') := fun W => by rw [hL1]; exact line_any m t ⟨#[]⟩ k 0 _ (by omega) (by omega) (by decide) (by decide) (by decide) W
  have H4 : Hid (∀ W : World, W.cell? ⟨0, 0, none⟩ = some (.int .i64 mx) → Calls Tryd.prog 7 #[.string L1] W fun o w' => o = .returned (.tuple #[.agg #[.string m, .string t, .int .i64 k, .int .i64 0, .string ⟨#[]⟩, .slice none 0 0], .int .i64 0]) ∧ Below W.heap.size W w') := fun W h => by rw [hL1]; exact request_any _ b3 b1 W h
  clear hL1 b1 b2 b3 b4 b5
  obtain ⟨L2, hL2⟩ : ∃ L, L = lineB ⟨#[]⟩ ⟨#[]⟩ k2 n r := ⟨_, rfl⟩
  obtain ⟨c1, c2, c3, c4, c5⟩ := back_stat hr hs
  have nd : decide (n < 100) = false := by rw [decide_eq_false_iff_not]; omega
  have H5 : Hid (∀ W : World, Calls Tryd.prog 17 #[.agg #[.string ⟨#[]⟩, .string ⟨#[]⟩, .int .i64 k2, .int .i64 n, .string r, .slice none 0 0]] W fun e w' => e = .returned (.string L2) ∧ Below W.heap.size W w') := fun W => by rw [hL2]; exact line_any ⟨#[]⟩ ⟨#[]⟩ r k2 n _ (by decide) (by decide) (by omega) (by omega) (by omega) W
  have H6 : Hid (∀ W : World, Calls Tryd.prog 13 #[.string L2] W fun o w' => o = .returned (.tuple #[.agg #[.string ⟨#[]⟩, .string ⟨#[]⟩, .int .i64 k2, .int .i64 n, .string r, .slice none 0 0], .int .i64 0]) ∧ Below W.heap.size W w') := fun W => by rw [hL2]; exact status_any _ c4 c1 W
  clear hL2 c1 c2 c3 c4 c5
  have HM := Lib.hid hm
  clear hm hs hq hr 
  go_enter Tryd.func6, Tryd.ntmps6
  go_wp2_with fail
  refine (H1.out _ HM.out).mono ?_
  rintro e' w1 ⟨rfl, hb⟩
  have M1 := Lib.hid (cell_alloc (cell_below HM.out hb) (.cells #[.string m, .string t, .int .i64 k, .int .i64 0, .string ⟨#[]⟩, .slice none 0 0] 24))
  have B1 := Lib.hid (Below.alloc hb hb.size (.cells #[.string m, .string t, .int .i64 k, .int .i64 0, .string ⟨#[]⟩, .slice none 0 0] 24))
  clear hb
  go_wp2_with fail
  refine (H3.out _).mono ?_
  rintro e' w2 ⟨rfl, hb⟩
  have M2 := Lib.hid (cell_below M1.out hb)
  have B2 := Lib.hid (B1.out.trans (hb.mono B1.out.size))
  have K2 : Hid (Blk w2 w1.heap.size #[.string m, .string t, .int .i64 k, .int .i64 0, .string ⟨#[]⟩, .slice none 0 0] 24) := (Blk.new _ _ _).call hb
  clear hb
  go_wp2_with fail
  refine (H4.out _ M2.out).mono ?_
  rintro e' w3 ⟨rfl, hb⟩
  obtain ⟨a, ha⟩ : ∃ a, a = w1.heap.size := ⟨_, rfl⟩
  rw [← ha] at K2
  rw [← ha]
  clear ha
  have M3 := Lib.hid (cell_alloc (cell_below M2.out hb) (.cells #[.string m, .string t, .int .i64 k, .int .i64 0, .string ⟨#[]⟩, .slice none 0 0] 24))
  have B3 := Lib.hid (B2.out.trans (hb.mono B2.out.size))
  have B4 := Lib.hid (B3.out.alloc B3.out.size (.cells #[.string m, .string t, .int .i64 k, .int .i64 0, .string ⟨#[]⟩, .slice none 0 0] 24))
  have K3 := Lib.hid ((K2.out.call hb).alloc (.cells #[.string m, .string t, .int .i64 k, .int .i64 0, .string ⟨#[]⟩, .slice none 0 0] 24))
  clear hb K2
  have c0 : (w3.alloc (.cells #[.string m, .string t, .int .i64 k, .int .i64 0, .string ⟨#[]⟩, .slice none 0 0] 24)).cell? ⟨a, 0, none⟩ = some (.string m) := K3.out.cell 0
  have c1 : (w3.alloc (.cells #[.string m, .string t, .int .i64 k, .int .i64 0, .string ⟨#[]⟩, .slice none 0 0] 24)).cell? ⟨a, 1, none⟩ = some (.string t) := K3.out.cell 1
  have c2 : (w3.alloc (.cells #[.string m, .string t, .int .i64 k, .int .i64 0, .string ⟨#[]⟩, .slice none 0 0] 24)).cell? ⟨a, 2, none⟩ = some (.int .i64 k) := K3.out.cell 2
  have c3 : (w3.alloc (.cells #[.string m, .string t, .int .i64 k, .int .i64 0, .string ⟨#[]⟩, .slice none 0 0] 24)).cell? ⟨a, 3, none⟩ = some (.int .i64 0) := K3.out.cell 3
  have c4 : (w3.alloc (.cells #[.string m, .string t, .int .i64 k, .int .i64 0, .string ⟨#[]⟩, .slice none 0 0] 24)).cell? ⟨a, 4, none⟩ = some (.string ⟨#[]⟩) := K3.out.cell 4
  have c5 : (w3.alloc (.cells #[.string m, .string t, .int .i64 k, .int .i64 0, .string ⟨#[]⟩, .slice none 0 0] 24)).cell? ⟨a, 5, none⟩ = some (.slice none 0 0) := K3.out.cell 5
  go_wp2_with fail
  refine (same_self _ _ _ _ _ _ _ _).mono ?_
  rintro e' w4 ⟨rfl, hb⟩
  have M5 := Lib.hid (cell_below M3.out hb)
  have B5 := Lib.hid (B4.out.trans (hb.mono B4.out.size))
  have K5 := Lib.hid (K3.out.call hb)
  clear hb c0 c1 c2 c3 c4 c5
  have d0 : w4.cell? ⟨a, 0, none⟩ = some (.string m) := K5.out.cell 0
  have d1 : w4.cell? ⟨a, 1, none⟩ = some (.string t) := K5.out.cell 1
  have d2 : w4.cell? ⟨a, 2, none⟩ = some (.int .i64 k) := K5.out.cell 2
  have d3 : w4.cell? ⟨a, 3, none⟩ = some (.int .i64 0) := K5.out.cell 3
  have d4 : w4.cell? ⟨a, 4, none⟩ = some (.string ⟨#[]⟩) := K5.out.cell 4
  have d5 : w4.cell? ⟨a, 5, none⟩ = some (.slice none 0 0) := K5.out.cell 5
  go_wp2_with fail
  refine (H2.out _).mono ?_
  rintro e' w5 ⟨rfl, hb⟩
  have M6 := Lib.hid (cell_alloc (cell_below M5.out hb) (.cells #[.string ⟨#[]⟩, .string ⟨#[]⟩, .int .i64 k2, .int .i64 n, .string r, .slice none 0 0] 24))
  have B6 := Lib.hid (B5.out.trans (hb.mono B5.out.size))
  have B7 := Lib.hid (B6.out.alloc B6.out.size (.cells #[.string ⟨#[]⟩, .string ⟨#[]⟩, .int .i64 k2, .int .i64 n, .string r, .slice none 0 0] 24))
  clear hb d0 d1 d2 d3 d4 d5
  go_wp2_with fail
  refine (H5.out _).mono ?_
  rintro e' w6 ⟨rfl, hb⟩
  have B8 := Lib.hid (B7.out.trans (hb.mono B7.out.size))
  have M8 := Lib.hid (cell_below M6.out hb)
  have K8 : Hid (Blk w6 w5.heap.size #[.string ⟨#[]⟩, .string ⟨#[]⟩, .int .i64 k2, .int .i64 n, .string r, .slice none 0 0] 24) := (Blk.new _ _ _).call hb
  clear hb
  go_wp2_with fail
  refine (H6.out _).mono ?_
  rintro e' w7 ⟨rfl, hb⟩
  obtain ⟨b, hbb⟩ : ∃ b, b = w5.heap.size := ⟨_, rfl⟩
  rw [← hbb] at K8
  rw [← hbb]
  clear hbb
  have M9 := Lib.hid (cell_alloc (cell_below M8.out hb) (.cells #[.string ⟨#[]⟩, .string ⟨#[]⟩, .int .i64 k2, .int .i64 n, .string r, .slice none 0 0] 24))
  have B9 := Lib.hid (B8.out.trans (hb.mono B8.out.size))
  have B10 := Lib.hid (B9.out.alloc B9.out.size (.cells #[.string ⟨#[]⟩, .string ⟨#[]⟩, .int .i64 k2, .int .i64 n, .string r, .slice none 0 0] 24))
  have K9 := Lib.hid ((K8.out.call hb).alloc (.cells #[.string ⟨#[]⟩, .string ⟨#[]⟩, .int .i64 k2, .int .i64 n, .string r, .slice none 0 0] 24))
  clear hb K8
  have c0 : (w7.alloc (.cells #[.string ⟨#[]⟩, .string ⟨#[]⟩, .int .i64 k2, .int .i64 n, .string r, .slice none 0 0] 24)).cell? ⟨b, 0, none⟩ = some (.string ⟨#[]⟩) := K9.out.cell 0
  have c1 : (w7.alloc (.cells #[.string ⟨#[]⟩, .string ⟨#[]⟩, .int .i64 k2, .int .i64 n, .string r, .slice none 0 0] 24)).cell? ⟨b, 1, none⟩ = some (.string ⟨#[]⟩) := K9.out.cell 1
  have c2 : (w7.alloc (.cells #[.string ⟨#[]⟩, .string ⟨#[]⟩, .int .i64 k2, .int .i64 n, .string r, .slice none 0 0] 24)).cell? ⟨b, 2, none⟩ = some (.int .i64 k2) := K9.out.cell 2
  have c3 : (w7.alloc (.cells #[.string ⟨#[]⟩, .string ⟨#[]⟩, .int .i64 k2, .int .i64 n, .string r, .slice none 0 0] 24)).cell? ⟨b, 3, none⟩ = some (.int .i64 n) := K9.out.cell 3
  have c4 : (w7.alloc (.cells #[.string ⟨#[]⟩, .string ⟨#[]⟩, .int .i64 k2, .int .i64 n, .string r, .slice none 0 0] 24)).cell? ⟨b, 4, none⟩ = some (.string r) := K9.out.cell 4
  have c5 : (w7.alloc (.cells #[.string ⟨#[]⟩, .string ⟨#[]⟩, .int .i64 k2, .int .i64 n, .string r, .slice none 0 0] 24)).cell? ⟨b, 5, none⟩ = some (.slice none 0 0) := K9.out.cell 5
  go_wp2_with fail
  refine (same_self _ _ _ _ _ _ _ _).mono ?_
  rintro e' w8 ⟨rfl, hb⟩
  have M11 := Lib.hid (cell_below M9.out hb)
  have B11 := Lib.hid (B10.out.trans (hb.mono B10.out.size))
  have K11 := Lib.hid (K9.out.call hb)
  clear hb c0 c1 c2 c3 c4 c5
  have d0 : w8.cell? ⟨b, 0, none⟩ = some (.string ⟨#[]⟩) := K11.out.cell 0
  have d1 : w8.cell? ⟨b, 1, none⟩ = some (.string ⟨#[]⟩) := K11.out.cell 1
  have d2 : w8.cell? ⟨b, 2, none⟩ = some (.int .i64 k2) := K11.out.cell 2
  have d3 : w8.cell? ⟨b, 3, none⟩ = some (.int .i64 n) := K11.out.cell 3
  have d4 : w8.cell? ⟨b, 4, none⟩ = some (.string r) := K11.out.cell 4
  have d5 : w8.cell? ⟨b, 5, none⟩ = some (.slice none 0 0) := K11.out.cell 5
  go_wp2_with fail
  refine (lives15 _ M11.out).mono ?_
  rintro e' w9 ⟨rfl, hb⟩
  have B12 := Lib.hid (B11.out.trans (hb.mono B11.out.size))
  clear hb
  go_wp2_with fail
  go_ret
  exact ⟨rfl, B12.out⟩
theorem start_back (l : ByteArray) (hl : l.size ≤ 9223372036854775807) {mx : Int} (w : World) (hm : w.cell? ⟨0, 0, none⟩ = some (.int .i64 mx)) : Calls Tryd.prog 6 #[.string l] w fun e w' => e = .returned (.bool true) ∧ Below w.heap.size w w' := by
  obtain ⟨s, hs, hsl⟩ := cut_at l hl
  obtain ⟨m, t, k, e, hq⟩ : ∃ m t k e, reqRes s = ((m, t, k), e) := ⟨_, _, _, _, rfl⟩
  obtain ⟨k2, n, r, e2, hr⟩ : ∃ k n r e, statRes s = ((k, n, r), e) := ⟨_, _, _, _, rfl⟩
  by_cases h1 : e = 0
  · by_cases h2 : e2 = 0
    · exact start_back_yy l hs hsl hq hr h1 h2 w hm
    · exact start_back_yn l hs hsl hq hr h1 h2 w hm
  · by_cases h2 : e2 = 0
    · exact start_back_ny l hs hsl hq hr h1 h2 w hm
    · exact start_back_nn l hs hsl hq hr h1 h2 w hm
end Go.Proofs.YtekbmefdaepgcaaDoor
