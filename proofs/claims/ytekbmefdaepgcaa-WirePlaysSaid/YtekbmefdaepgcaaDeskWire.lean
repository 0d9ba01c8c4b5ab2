/- The reference's wire in a desk of package abutmentlaw42: it lies at places 2 to 5. -/
import Derived.Test.YtekbmefdaepgcaaDeskRef
import Derived.Test.YtekbmefdaepgcaaCl
namespace Go.Proofs.Ytekbmefdaepgcaa
open Go.RowKit
theorem isEmpty_size (x : ByteArray) : x.toList.isEmpty = decide (x.size = 0) := by
  rw [ByteArray.toList_eq, ← bsize]
  cases x.data.toList <;> simp
theorem dsend_off {w : World} {b : Nat} {wp kp : Value} {Lf : ByteArray} {M : Int} {E : Bool} {Tk : ByteArray} {In Out : ByteArray} {most : Int} {ed sh : Bool} (h : Dk w b wp kp Lf M E Tk In Out most ed sh) (he : E = true) (x : ByteArray) : Calls Try.prog 62 #[.pointer (some ⟨b, 2, none⟩), .string x] w fun e w' => e = .returned (.int .i64 0) ∧ w = w' := by
  subst he
  have c2 : w.cell? ⟨b, 2, none⟩ = some (.string Lf) := h.cell 2
  have z2 : w.frozen? ⟨b, 2, none⟩ = false := h.froz 2
  have c3 : w.cell? ⟨b, 3, none⟩ = some (.int .i64 M) := h.cell 3
  have z3 : w.frozen? ⟨b, 3, none⟩ = false := h.froz 3
  have c4 : w.cell? ⟨b, 4, none⟩ = some (.bool true) := h.cell 4
  have z4 : w.frozen? ⟨b, 4, none⟩ = false := h.froz 4
  have c5 : w.cell? ⟨b, 5, none⟩ = some (.string Tk) := h.cell 5
  have z5 : w.frozen? ⟨b, 5, none⟩ = false := h.froz 5
  clear h
  go_enter Try.func62, Try.ntmps62
  go_wp2_with fail
  go_ret
  exact ⟨rfl, rfl⟩
set_option maxHeartbeats 1000000 in
theorem dsend_any {w : World} {b : Nat} {wp kp : Value} {Lf : ByteArray} {M : Int} {E : Bool} {Tk : ByteArray} {In Out : ByteArray} {most : Int} {ed sh : Bool} (h : Dk w b wp kp Lf M E Tk In Out most ed sh) (he : E = false) (x Lf' : ByteArray) (hM : 0 ≤ M) (hs : M + x.size ≤ 1048576) (hL : Lf.size ≤ 1048576) (hLf : Lf' = Lf ++ x) (M' : Int) (hM' : M' = M + x.size) : Calls Try.prog 62 #[.pointer (some ⟨b, 2, none⟩), .string x] w fun e w' => e = .returned (.int .i64 x.size) ∧ Dk w' b wp kp Lf' M' E Tk In Out most ed sh ∧ Touch (fun i => i = b) w w' := by
  subst he
  have c2 : w.cell? ⟨b, 2, none⟩ = some (.string Lf) := h.cell 2
  have z2 : w.frozen? ⟨b, 2, none⟩ = false := h.froz 2
  have c3 : w.cell? ⟨b, 3, none⟩ = some (.int .i64 M) := h.cell 3
  have z3 : w.frozen? ⟨b, 3, none⟩ = false := h.froz 3
  have c4 : w.cell? ⟨b, 4, none⟩ = some (.bool false) := h.cell 4
  have z4 : w.frozen? ⟨b, 4, none⟩ = false := h.froz 4
  have c5 : w.cell? ⟨b, 5, none⟩ = some (.string Tk) := h.cell 5
  have z5 : w.frozen? ⟨b, 5, none⟩ = false := h.froz 5
  have H := Lib.hid h
  have HL := Lib.hid hLf
  have HM := Lib.hid hM'
  have hxx : x.extract 0 x.size = x := bytes_ext (by rw [data_extract, List.drop_zero, List.take_of_length_le (by rw [bsize]; omega)])
  have hadd := fun (W : World) => run_string_add_sum (P := Try.prog) (w := W) Lf x (by omega)
  clear h hLf hM'
  go_enter Try.func62, Try.ntmps62
  go_wp2_with fail
  go_region
  clear hadd
  go_wp2_with fail
  go_ret
  refine ⟨rfl, ?_, ?_⟩
  · have h1 := Dk.set (w := w.drew) H.out 2 (.string (Lf ++ x)) (Lf' := Lf') (by rw [HL.out]; rfl)
    exact Dk.set h1 3 (.int .i64 (M + x.size)) (by rw [HM.out]; rfl)
  · exact (((Touch.refl _ w).drew).setCell (P := fun i => i = b) rfl _).setCell (P := fun i => i = b) rfl _
theorem dgrant_any {w : World} {b : Nat} {wp kp : Value} {Lf : ByteArray} {M : Int} {E : Bool} {Tk : ByteArray} {In Out : ByteArray} {most : Int} {ed sh : Bool} (h : Dk w b wp kp Lf M E Tk In Out most ed sh) (n : Int) (hl : Out.size ≤ 4611686018427387903) (x Out' Tk' : ByteArray) (hx : x.data.toList = Out.data.toList.take n.toNat) (hO : Out'.data.toList = Out.data.toList.drop n.toNat) (hT : Tk' = Tk ++ x) (hTs : Tk.size + x.size ≤ 4611686018427387903) :
    Calls Try.prog 68 #[.pointer (some ⟨b, 2, none⟩), .pointer (some ⟨b, 6, none⟩), .int .i64 n] w fun e w' => e = .returned (.int .i64 x.size) ∧ Dk w' b wp kp Lf M E Tk' In Out' most ed sh ∧ Touch (fun i => i = b) w w' := by
  have H := Lib.hid h
  have HX := Lib.hid hx
  have HO := Lib.hid hO
  have HT := Lib.hid hT
  have hadd := fun (W : World) => run_string_add_sum (P := Try.prog) (w := W) Tk x (by omega)
  clear h hx hO hT
  go_enter Try.func68, Try.ntmps68
  go_wp2_with fail
  refine (dltake_any H.out n hl x Out' HX.out HO.out).mono ?_
  rintro e w2 ⟨rfl, h2, t2⟩
  have c5 : w2.cell? ⟨b, 5, none⟩ = some (.string Tk) := h2.cell 5
  have z5 : w2.frozen? ⟨b, 5, none⟩ = false := h2.froz 5
  have H2 := Lib.hid h2
  have T2 := Lib.hid t2
  clear h2 t2
  go_wp2_with fail
  go_ret
  exact ⟨rfl, Dk.set H2.out 5 _ (by rw [HT.out]; rfl), T2.out.setCell (P := fun i => i = b) rfl _⟩
theorem dgive_full {w : World} {b : Nat} {wp kp : Value} {Lf : ByteArray} {M : Int} {E : Bool} {Tk : ByteArray} {In Out : ByteArray} {most : Int} {ed sh : Bool} (h : Dk w b wp kp Lf M E Tk In Out most ed sh) (x : ByteArray) (hs : x.size ≤ 4611686018427387903) (m : Nat) (hm : most = m) (hl : In.size ≤ m) (hm2 : m ≤ 4611686018427387903) (k : Nat) (hk : k = min x.size (if ed || sh then 0 else m - In.size)) (In' : ByteArray) (hI : In' = In ++ x.extract 0 k) :
    Calls Try.prog 106 #[.pointer (some ⟨b, 6, none⟩), .string x] w fun e w' => e = .returned (.int .i64 k) ∧ Dk w' b wp kp Lf M E Tk In' Out most ed sh ∧ Touch (fun i => i = b) w w' := by
  cases he : ed || sh with
  | true =>
    rw [he, if_pos rfl, Nat.min_zero] at hk
    subst hk
    have hI2 : In' = In := bytes_ext (by rw [hI, data_append, data_extract]; simp)
    rw [hI2]
    refine (dgive_shut h x he).mono ?_
    rintro e w' ⟨rfl, rfl⟩
    exact ⟨rfl, h, Touch.refl _ _⟩
  | false =>
    rw [he] at hk
    simp only [Bool.false_eq_true, if_false] at hk
    rw [Bool.or_eq_false_iff] at he
    exact dgive_any h x hs he.1 he.2 (by omega) (by omega) k (by omega) In' hI
set_option maxHeartbeats 2000000 in
theorem dread_neg {w : World} {b U : Nat} {wp kp : Value} {Lf : ByteArray} {M : Int} {E : Bool} {Tk : ByteArray} {In Out : ByteArray} {most : Int} {ed sh : Bool} (h : Dk w b wp kp Lf M E Tk In Out most ed sh) (hs : Lf.size ≤ 1048576) (n : Int) (hn : n < 0) (hU : U = 0) (m : Nat) (hm : most = m) (hl : In.size ≤ m) (hm2 : m ≤ 4611686018427387903) (k : Nat) (hk : k = min (Lf.extract 0 U).size (if ed || sh then 0 else m - In.size)) (In' : ByteArray) (hI : In' = In ++ (Lf.extract 0 U).extract 0 k) (Lf' : ByteArray) (hLf : Lf' = Lf.extract k Lf.size) (v : Bool) (hv : v = decide (Lf'.size = 0)) (ed' : Bool) (hed : ed' = (ed || (E && v))) :
    Calls Try.prog 64 #[.pointer (some ⟨b, 2, none⟩), .pointer (some ⟨b, 6, none⟩), .int .i64 n] w fun e w' => e = .returned (.int .i64 k) ∧ Dk w' b wp kp Lf' M E Tk In' Out most ed' sh ∧ Touch (fun i => i = b) w w' := by
  have c2 : w.cell? ⟨b, 2, none⟩ = some (.string Lf) := h.cell 2
  have z2 : w.frozen? ⟨b, 2, none⟩ = false := h.froz 2
  have c3 : w.cell? ⟨b, 3, none⟩ = some (.int .i64 M) := h.cell 3
  have z3 : w.frozen? ⟨b, 3, none⟩ = false := h.froz 3
  have c4 : w.cell? ⟨b, 4, none⟩ = some (.bool E) := h.cell 4
  have z4 : w.frozen? ⟨b, 4, none⟩ = false := h.froz 4
  have c5 : w.cell? ⟨b, 5, none⟩ = some (.string Tk) := h.cell 5
  have z5 : w.frozen? ⟨b, 5, none⟩ = false := h.froz 5
  have H := Lib.hid h
  have HK := Lib.hid hk
  have HI := Lib.hid hI
  have HL := Lib.hid hLf
  have HV := Lib.hid (show Lf'.toList.isEmpty = v by rw [isEmpty_size, hv])
  have HED := Lib.hid hed
  have HM := Lib.hid hm
  have hy : (Lf.extract 0 U).size = min U Lf.size := by rw [ByteArray.size_extract]; omega
  have hkl : k ≤ Lf.size := by omega
  have hys : (Lf.extract 0 U).size ≤ 4611686018427387903 := by omega
  have hmx : max n 0 = 0 := by omega
  have hmn : min 0 (Lf.size : Int) = 0 := by omega
  have hsl : ∀ W : World, (Instr.slice 9 (.string Lf) none (some (.int .i64 0)) none).run Try.prog W = .ok (.string (Lf.extract 0 U)) W := fun W => by rw [run_slice_string_h W 9 Lf Try.underlying9 .i64 0 (by omega) (by omega), show (0 : Int).toNat = U from hU.symm]
  clear h hk hI hLf hv hed hm hy hU
  go_enter Try.func64, Try.ntmps64
  go_wp2_with fail
  refine wp_region_drew_tail 14 (by kernel_rfl) (by kernel_rfl) ?_
  simp only [List.take_succ_cons, List.take_zero, List.drop_succ_cons, List.drop_zero]
  repeat go_big_quiet_step (fail)
  refine wpQuiet_nil ?_
  rintro _ ⟨nq, rfl⟩
  clear hmx hmn hsl
  go_wp2_with fail
  refine (dgive_full (w := w.drewN nq) H.out (Lf.extract 0 U) hys m HM.out hl hm2 k HK.out In' HI.out).mono ?_
  rintro e w2 ⟨rfl, h2, t2⟩
  have c2' : w2.cell? ⟨b, 2, none⟩ = some (.string Lf) := h2.cell 2
  have z2' : w2.frozen? ⟨b, 2, none⟩ = false := h2.froz 2
  have c4' : w2.cell? ⟨b, 4, none⟩ = some (.bool E) := h2.cell 4
  have c9' : w2.cell? ⟨b, 9, none⟩ = some (.bool ed) := h2.cell 9
  have z9' : w2.frozen? ⟨b, 9, none⟩ = false := h2.froz 9
  have H2 := Lib.hid h2
  have T2 := Lib.hid t2
  clear h2 t2 c2 c3 c4 c5 z2 z3 z4 z5
  have hve := HV.out
  rw [HL.out] at hve
  have h3 : Dk (w2.setCell ⟨b, 2, none⟩ (.string (Lf.extract k Lf.size))) b wp kp Lf' M E Tk In' Out most ed sh := Dk.set H2.out 2 _ (by rw [HL.out]; rfl)
  have t3 : Touch (fun i => i = b) w (w2.setCell ⟨b, 2, none⟩ (.string (Lf.extract k Lf.size))) := (((Touch.refl _ w).drewN nq).trans T2.out).setCell (P := fun i => i = b) rfl _
  have H3 := Lib.hid h3
  have T3 := Lib.hid t3
  clear h3 t3
  cases E
  · go_wp2_with fail
    go_ret
    rw [HED.out, Bool.false_and, Bool.or_false]
    exact ⟨rfl, H3.out, T3.out⟩
  · cases v
    · go_wp2_with fail
      go_ret
      rw [HED.out, Bool.and_false, Bool.or_false]
      exact ⟨rfl, H3.out, T3.out⟩
    · go_wp2_with fail
      go_ret
      rw [HED.out, Bool.and_true, Bool.or_true]
      exact ⟨rfl, Dk.set H3.out 9 _ rfl, T3.out.setCell (P := fun i => i = b) rfl _⟩
set_option maxHeartbeats 2000000 in
theorem dread_in {w : World} {b U : Nat} {wp kp : Value} {Lf : ByteArray} {M : Int} {E : Bool} {Tk : ByteArray} {In Out : ByteArray} {most : Int} {ed sh : Bool} (h : Dk w b wp kp Lf M E Tk In Out most ed sh) (hs : Lf.size ≤ 1048576) (n : Int) (hn : 0 ≤ n) (hn2 : n ≤ (Lf.size : Int)) (hU : U = n.toNat) (m : Nat) (hm : most = m) (hl : In.size ≤ m) (hm2 : m ≤ 4611686018427387903) (k : Nat) (hk : k = min (Lf.extract 0 U).size (if ed || sh then 0 else m - In.size)) (In' : ByteArray) (hI : In' = In ++ (Lf.extract 0 U).extract 0 k) (Lf' : ByteArray) (hLf : Lf' = Lf.extract k Lf.size) (v : Bool) (hv : v = decide (Lf'.size = 0)) (ed' : Bool) (hed : ed' = (ed || (E && v))) :
    Calls Try.prog 64 #[.pointer (some ⟨b, 2, none⟩), .pointer (some ⟨b, 6, none⟩), .int .i64 n] w fun e w' => e = .returned (.int .i64 k) ∧ Dk w' b wp kp Lf' M E Tk In' Out most ed' sh ∧ Touch (fun i => i = b) w w' := by
  have c2 : w.cell? ⟨b, 2, none⟩ = some (.string Lf) := h.cell 2
  have z2 : w.frozen? ⟨b, 2, none⟩ = false := h.froz 2
  have c3 : w.cell? ⟨b, 3, none⟩ = some (.int .i64 M) := h.cell 3
  have z3 : w.frozen? ⟨b, 3, none⟩ = false := h.froz 3
  have c4 : w.cell? ⟨b, 4, none⟩ = some (.bool E) := h.cell 4
  have z4 : w.frozen? ⟨b, 4, none⟩ = false := h.froz 4
  have c5 : w.cell? ⟨b, 5, none⟩ = some (.string Tk) := h.cell 5
  have z5 : w.frozen? ⟨b, 5, none⟩ = false := h.froz 5
  have H := Lib.hid h
  have HK := Lib.hid hk
  have HI := Lib.hid hI
  have HL := Lib.hid hLf
  have HV := Lib.hid (show Lf'.toList.isEmpty = v by rw [isEmpty_size, hv])
  have HED := Lib.hid hed
  have HM := Lib.hid hm
  have hy : (Lf.extract 0 U).size = min U Lf.size := by rw [ByteArray.size_extract]; omega
  have hkl : k ≤ Lf.size := by omega
  have hys : (Lf.extract 0 U).size ≤ 4611686018427387903 := by omega
  have hmx : max n 0 = n := by omega
  have hmn : min n (Lf.size : Int) = n := by omega
  have hsl : ∀ W : World, (Instr.slice 9 (.string Lf) none (some (.int .i64 n)) none).run Try.prog W = .ok (.string (Lf.extract 0 U)) W := fun W => by rw [run_slice_string_h W 9 Lf Try.underlying9 .i64 n (by omega) (by omega), ← hU]
  clear h hk hI hLf hv hed hm hy hU
  go_enter Try.func64, Try.ntmps64
  go_wp2_with fail
  refine wp_region_drew_tail 14 (by kernel_rfl) (by kernel_rfl) ?_
  simp only [List.take_succ_cons, List.take_zero, List.drop_succ_cons, List.drop_zero]
  repeat go_big_quiet_step (fail)
  refine wpQuiet_nil ?_
  rintro _ ⟨nq, rfl⟩
  clear hmx hmn hsl
  go_wp2_with fail
  refine (dgive_full (w := w.drewN nq) H.out (Lf.extract 0 U) hys m HM.out hl hm2 k HK.out In' HI.out).mono ?_
  rintro e w2 ⟨rfl, h2, t2⟩
  have c2' : w2.cell? ⟨b, 2, none⟩ = some (.string Lf) := h2.cell 2
  have z2' : w2.frozen? ⟨b, 2, none⟩ = false := h2.froz 2
  have c4' : w2.cell? ⟨b, 4, none⟩ = some (.bool E) := h2.cell 4
  have c9' : w2.cell? ⟨b, 9, none⟩ = some (.bool ed) := h2.cell 9
  have z9' : w2.frozen? ⟨b, 9, none⟩ = false := h2.froz 9
  have H2 := Lib.hid h2
  have T2 := Lib.hid t2
  clear h2 t2 c2 c3 c4 c5 z2 z3 z4 z5
  have hve := HV.out
  rw [HL.out] at hve
  have h3 : Dk (w2.setCell ⟨b, 2, none⟩ (.string (Lf.extract k Lf.size))) b wp kp Lf' M E Tk In' Out most ed sh := Dk.set H2.out 2 _ (by rw [HL.out]; rfl)
  have t3 : Touch (fun i => i = b) w (w2.setCell ⟨b, 2, none⟩ (.string (Lf.extract k Lf.size))) := (((Touch.refl _ w).drewN nq).trans T2.out).setCell (P := fun i => i = b) rfl _
  have H3 := Lib.hid h3
  have T3 := Lib.hid t3
  clear h3 t3
  cases E
  · go_wp2_with fail
    go_ret
    rw [HED.out, Bool.false_and, Bool.or_false]
    exact ⟨rfl, H3.out, T3.out⟩
  · cases v
    · go_wp2_with fail
      go_ret
      rw [HED.out, Bool.and_false, Bool.or_false]
      exact ⟨rfl, H3.out, T3.out⟩
    · go_wp2_with fail
      go_ret
      rw [HED.out, Bool.and_true, Bool.or_true]
      exact ⟨rfl, Dk.set H3.out 9 _ rfl, T3.out.setCell (P := fun i => i = b) rfl _⟩
set_option maxHeartbeats 2000000 in
theorem dread_out {w : World} {b U : Nat} {wp kp : Value} {Lf : ByteArray} {M : Int} {E : Bool} {Tk : ByteArray} {In Out : ByteArray} {most : Int} {ed sh : Bool} (h : Dk w b wp kp Lf M E Tk In Out most ed sh) (hs : Lf.size ≤ 1048576) (n : Int) (hn2 : (Lf.size : Int) < n) (hU : U = Lf.size) (m : Nat) (hm : most = m) (hl : In.size ≤ m) (hm2 : m ≤ 4611686018427387903) (k : Nat) (hk : k = min (Lf.extract 0 U).size (if ed || sh then 0 else m - In.size)) (In' : ByteArray) (hI : In' = In ++ (Lf.extract 0 U).extract 0 k) (Lf' : ByteArray) (hLf : Lf' = Lf.extract k Lf.size) (v : Bool) (hv : v = decide (Lf'.size = 0)) (ed' : Bool) (hed : ed' = (ed || (E && v))) :
    Calls Try.prog 64 #[.pointer (some ⟨b, 2, none⟩), .pointer (some ⟨b, 6, none⟩), .int .i64 n] w fun e w' => e = .returned (.int .i64 k) ∧ Dk w' b wp kp Lf' M E Tk In' Out most ed' sh ∧ Touch (fun i => i = b) w w' := by
  have c2 : w.cell? ⟨b, 2, none⟩ = some (.string Lf) := h.cell 2
  have z2 : w.frozen? ⟨b, 2, none⟩ = false := h.froz 2
  have c3 : w.cell? ⟨b, 3, none⟩ = some (.int .i64 M) := h.cell 3
  have z3 : w.frozen? ⟨b, 3, none⟩ = false := h.froz 3
  have c4 : w.cell? ⟨b, 4, none⟩ = some (.bool E) := h.cell 4
  have z4 : w.frozen? ⟨b, 4, none⟩ = false := h.froz 4
  have c5 : w.cell? ⟨b, 5, none⟩ = some (.string Tk) := h.cell 5
  have z5 : w.frozen? ⟨b, 5, none⟩ = false := h.froz 5
  have H := Lib.hid h
  have HK := Lib.hid hk
  have HI := Lib.hid hI
  have HL := Lib.hid hLf
  have HV := Lib.hid (show Lf'.toList.isEmpty = v by rw [isEmpty_size, hv])
  have HED := Lib.hid hed
  have HM := Lib.hid hm
  have hy : (Lf.extract 0 U).size = min U Lf.size := by rw [ByteArray.size_extract]; omega
  have hkl : k ≤ Lf.size := by omega
  have hys : (Lf.extract 0 U).size ≤ 4611686018427387903 := by omega
  have hmx : max n 0 = n := by omega
  have hmn : min n (Lf.size : Int) = (Lf.size : Int) := by omega
  have hsl : ∀ W : World, (Instr.slice 9 (.string Lf) none (some (.int .i64 (Lf.size : Int))) none).run Try.prog W = .ok (.string (Lf.extract 0 U)) W := fun W => by rw [run_slice_string_h W 9 Lf Try.underlying9 .i64 (Lf.size : Int) (by omega) (by omega), show ((Lf.size : Int)).toNat = U from by omega]
  clear h hk hI hLf hv hed hm hy hU
  go_enter Try.func64, Try.ntmps64
  go_wp2_with fail
  refine wp_region_drew_tail 14 (by kernel_rfl) (by kernel_rfl) ?_
  simp only [List.take_succ_cons, List.take_zero, List.drop_succ_cons, List.drop_zero]
  repeat go_big_quiet_step (fail)
  refine wpQuiet_nil ?_
  rintro _ ⟨nq, rfl⟩
  clear hmx hmn hsl
  go_wp2_with fail
  refine (dgive_full (w := w.drewN nq) H.out (Lf.extract 0 U) hys m HM.out hl hm2 k HK.out In' HI.out).mono ?_
  rintro e w2 ⟨rfl, h2, t2⟩
  have c2' : w2.cell? ⟨b, 2, none⟩ = some (.string Lf) := h2.cell 2
  have z2' : w2.frozen? ⟨b, 2, none⟩ = false := h2.froz 2
  have c4' : w2.cell? ⟨b, 4, none⟩ = some (.bool E) := h2.cell 4
  have c9' : w2.cell? ⟨b, 9, none⟩ = some (.bool ed) := h2.cell 9
  have z9' : w2.frozen? ⟨b, 9, none⟩ = false := h2.froz 9
  have H2 := Lib.hid h2
  have T2 := Lib.hid t2
  clear h2 t2 c2 c3 c4 c5 z2 z3 z4 z5
  have hve := HV.out
  rw [HL.out] at hve
  have h3 : Dk (w2.setCell ⟨b, 2, none⟩ (.string (Lf.extract k Lf.size))) b wp kp Lf' M E Tk In' Out most ed sh := Dk.set H2.out 2 _ (by rw [HL.out]; rfl)
  have t3 : Touch (fun i => i = b) w (w2.setCell ⟨b, 2, none⟩ (.string (Lf.extract k Lf.size))) := (((Touch.refl _ w).drewN nq).trans T2.out).setCell (P := fun i => i = b) rfl _
  have H3 := Lib.hid h3
  have T3 := Lib.hid t3
  clear h3 t3
  cases E
  · go_wp2_with fail
    go_ret
    rw [HED.out, Bool.false_and, Bool.or_false]
    exact ⟨rfl, H3.out, T3.out⟩
  · cases v
    · go_wp2_with fail
      go_ret
      rw [HED.out, Bool.and_false, Bool.or_false]
      exact ⟨rfl, H3.out, T3.out⟩
    · go_wp2_with fail
      go_ret
      rw [HED.out, Bool.and_true, Bool.or_true]
      exact ⟨rfl, Dk.set H3.out 9 _ rfl, T3.out.setCell (P := fun i => i = b) rfl _⟩
theorem dread_any {w : World} {b U : Nat} {wp kp : Value} {Lf : ByteArray} {M : Int} {E : Bool} {Tk : ByteArray} {In Out : ByteArray} {most : Int} {ed sh : Bool} (h : Dk w b wp kp Lf M E Tk In Out most ed sh) (hs : Lf.size ≤ 1048576) (n : Int) (hU : U = min Lf.size n.toNat) (m : Nat) (hm : most = m) (hl : In.size ≤ m) (hm2 : m ≤ 4611686018427387903) (k : Nat) (hk : k = min (Lf.extract 0 U).size (if ed || sh then 0 else m - In.size)) (In' : ByteArray) (hI : In' = In ++ (Lf.extract 0 U).extract 0 k) (Lf' : ByteArray) (hLf : Lf' = Lf.extract k Lf.size) (v : Bool) (hv : v = decide (Lf'.size = 0)) (ed' : Bool) (hed : ed' = (ed || (E && v))) :
    Calls Try.prog 64 #[.pointer (some ⟨b, 2, none⟩), .pointer (some ⟨b, 6, none⟩), .int .i64 n] w fun e w' => e = .returned (.int .i64 k) ∧ Dk w' b wp kp Lf' M E Tk In' Out most ed' sh ∧ Touch (fun i => i = b) w w' := by
  by_cases h0 : n < 0
  · exact dread_neg h hs n h0 (by omega) m hm hl hm2 k hk In' hI Lf' hLf v hv ed' hed
  by_cases h1 : n ≤ (Lf.size : Int)
  · exact dread_in h hs n (by omega) h1 (by omega) m hm hl hm2 k hk In' hI Lf' hLf v hv ed' hed
  · exact dread_out h hs n (by omega) (by omega) m hm hl hm2 k hk In' hI Lf' hLf v hv ed' hed
end Go.Proofs.Ytekbmefdaepgcaa
