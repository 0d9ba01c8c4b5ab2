/- The reference's link in a desk of package abutmentlaw42: the reference's link lies at places 6 to 10 of the desk. -/
import Derived.Test.YtekbmefdaepgcaaLinkTake
namespace Go.Proofs.Ytekbmefdaepgcaa
open Go.RowKit
def Dk (w : World) (b : Nat) (wp kp : Value) (Lf : ByteArray) (M : Int) (E : Bool) (Tk : ByteArray) (In Out : ByteArray) (most : Int) (ended shut : Bool) : Prop := Blk w b #[wp, kp, .string Lf, .int .i64 M, .bool E, .string Tk, .string In, .string Out, .int .i64 most, .bool ended, .bool shut] 52
theorem Dk.touch {P : Nat → Prop} {w w1 : World} {b : Nat} {wp kp : Value} {Lf : ByteArray} {M : Int} {E : Bool} {Tk : ByteArray} {In Out : ByteArray} {most : Int} {e s : Bool} (h : Dk w b wp kp Lf M E Tk In Out most e s) (t : Touch P w w1) (hb : ¬ P b) : Dk w1 b wp kp Lf M E Tk In Out most e s := Blk.touch h t hb
theorem Dk.set {w : World} {b : Nat} {wp kp : Value} {Lf : ByteArray} {M : Int} {E : Bool} {Tk : ByteArray} {In Out : ByteArray} {most : Int} {e s : Bool} (h : Dk w b wp kp Lf M E Tk In Out most e s) (i : Nat) (u : Value) {Lf' : ByteArray} {M' : Int} {E' : Bool} {Tk' In' Out' : ByteArray} {e' s' : Bool}
    (ec : (#[wp, kp, .string Lf, .int .i64 M, .bool E, .string Tk, .string In, .string Out, .int .i64 most, .bool e, .bool s] : Array Value).setIfInBounds i u = #[wp, kp, .string Lf', .int .i64 M', .bool E', .string Tk', .string In', .string Out', .int .i64 most, .bool e', .bool s']) : Dk (w.setCell ⟨b, i, none⟩ u) b wp kp Lf' M' E' Tk' In' Out' most e' s' := by
  have := Blk.set h i u
  rw [ec] at this
  exact this
theorem dgive_shut {w : World} {b : Nat} {wp kp : Value} {Lf : ByteArray} {M : Int} {E : Bool} {Tk : ByteArray} {In Out : ByteArray} {most : Int} {ed sh : Bool} (h : Dk w b wp kp Lf M E Tk In Out most ed sh) (x : ByteArray) (he : (ed || sh) = true) : Calls Try.prog 106 #[.pointer (some ⟨b, 6, none⟩), .string x] w fun e w' => e = .returned (.int .i64 0) ∧ w = w' := by
  have c0 : w.cell? ⟨b, 6, none⟩ = some (.string In) := h.cell 6
  have c1 : w.cell? ⟨b, 7, none⟩ = some (.string Out) := h.cell 7
  have c2 : w.cell? ⟨b, 8, none⟩ = some (.int .i64 most) := h.cell 8
  have c3 : w.cell? ⟨b, 9, none⟩ = some (.bool ed) := h.cell 9
  have c4 : w.cell? ⟨b, 10, none⟩ = some (.bool sh) := h.cell 10
  have z0 : w.frozen? ⟨b, 6, none⟩ = false := h.froz 6
  have z1 : w.frozen? ⟨b, 7, none⟩ = false := h.froz 7
  have H := Lib.hid h
  clear h
  cases ed
  · rw [Bool.false_or] at he
    subst he
    go_enter Try.func106, Try.ntmps106
    go_wp2
    go_ret
    exact ⟨rfl, rfl⟩
  · clear he
    go_enter Try.func106, Try.ntmps106
    go_wp2
    go_ret
    exact ⟨rfl, rfl⟩
set_option maxHeartbeats 1000000 in
theorem dgive_any {w : World} {b : Nat} {wp kp : Value} {Lf : ByteArray} {M : Int} {E : Bool} {Tk : ByteArray} {In Out : ByteArray} {most : Int} {ed sh : Bool} (h : Dk w b wp kp Lf M E Tk In Out most ed sh) (x : ByteArray) (hs : x.size ≤ 4611686018427387903) (he : ed = false) (hc : sh = false) (hl : In.size ≤ most) (hm : most ≤ 4611686018427387903) (k : Nat) (hk : (k : Int) = min (x.size : Int) (most - In.size)) (In' : ByteArray) (hI : In' = In ++ x.extract 0 k) :
    Calls Try.prog 106 #[.pointer (some ⟨b, 6, none⟩), .string x] w fun e w' => e = .returned (.int .i64 k) ∧ Dk w' b wp kp Lf M E Tk In' Out most ed sh ∧ Touch (fun i => i = b) w w' := by
  subst he hc
  have c0 : w.cell? ⟨b, 6, none⟩ = some (.string In) := h.cell 6
  have c1 : w.cell? ⟨b, 7, none⟩ = some (.string Out) := h.cell 7
  have c2 : w.cell? ⟨b, 8, none⟩ = some (.int .i64 most) := h.cell 8
  have c3 : w.cell? ⟨b, 9, none⟩ = some (.bool false) := h.cell 9
  have c4 : w.cell? ⟨b, 10, none⟩ = some (.bool false) := h.cell 10
  have z0 : w.frozen? ⟨b, 6, none⟩ = false := h.froz 6
  have z1 : w.frozen? ⟨b, 7, none⟩ = false := h.froz 7
  have H := Lib.hid h
  clear h
  obtain ⟨m, hm2⟩ : ∃ m : Nat, (m : Int) = most - In.size := ⟨(most - In.size).toNat, by omega⟩
  by_cases h1 : x.size ≤ m
  · have hkx : k = x.size := by omega
    subst hkx
    have hxx : x.extract 0 x.size = x := bytes_ext (by rw [data_extract, List.drop_zero, List.take_of_length_le (by rw [bsize]; omega)])
    have hadd := fun (W : World) => run_string_add_sum (P := Try.prog) (w := W) In x (by omega)
    rw [hxx] at hI
    have HI := Lib.hid hI
    have h2 : (x.size : Int) ≤ most - In.size := by omega
    clear hk hI hxx hm2
    go_enter Try.func106, Try.ntmps106
    go_wp2_with fail
    go_quiet (fail)
    go_wp2_with fail
    go_region
    clear hadd
    go_wp2_with fail
    go_ret
    refine ⟨rfl, ?_, ?_⟩
    · exact Dk.set (w := w.drewN _) H.out 6 _ (by rw [HI.out]; rfl)
    · exact ((Touch.refl _ w).drewN _).setCell (P := fun i => i = b) rfl _
  · have hkx : k = m := by omega
    subst hkx
    have hadd := fun (W : World) => run_string_add_sum (P := Try.prog) (w := W) In (x.extract 0 k) (by rw [ByteArray.size_extract]; omega)
    have HI := Lib.hid hI
    have h2 : most - In.size < (x.size : Int) := by omega
    have h3 : (most - (In.size : Int)).toNat = k := by omega
    have h4 : most - (In.size : Int) = (k : Int) := by omega
    clear hk hI hm2
    go_enter Try.func106, Try.ntmps106
    go_wp2_with fail
    go_quiet (fail)
    go_wp2_with fail
    go_region
    clear hadd
    go_wp2_with fail
    go_ret
    refine ⟨rfl, ?_, ?_⟩
    · exact Dk.set (w := w.drewN _) H.out 6 _ (by rw [HI.out]; rfl)
    · exact ((Touch.refl _ w).drewN _).setCell (P := fun i => i = b) rfl _
set_option maxHeartbeats 1000000 in
theorem duse_neg {w : World} {b : Nat} {wp kp : Value} {Lf : ByteArray} {M : Int} {E : Bool} {Tk : ByteArray} {In Out : ByteArray} {most : Int} {ed sh : Bool} (h : Dk w b wp kp Lf M E Tk In Out most ed sh) (k : Int) (hk : k < 0) (hl : In.size ≤ 4611686018427387903) (In' : ByteArray) (hI : In' = In) :
    Calls Try.prog 70 #[.pointer (some ⟨b, 6, none⟩), .int .i64 k] w fun e w' => e = .returned (.tuple #[]) ∧ Dk w' b wp kp Lf M E Tk In' Out most ed sh ∧ Touch (fun i => i = b) w w' := by
  have c0 : w.cell? ⟨b, 6, none⟩ = some (.string In) := h.cell 6
  have c1 : w.cell? ⟨b, 7, none⟩ = some (.string Out) := h.cell 7
  have c2 : w.cell? ⟨b, 8, none⟩ = some (.int .i64 most) := h.cell 8
  have c3 : w.cell? ⟨b, 9, none⟩ = some (.bool ed) := h.cell 9
  have c4 : w.cell? ⟨b, 10, none⟩ = some (.bool sh) := h.cell 10
  have z0 : w.frozen? ⟨b, 6, none⟩ = false := h.froz 6
  have z1 : w.frozen? ⟨b, 7, none⟩ = false := h.froz 7
  have H := Lib.hid h
  clear h
  have HI := Lib.hid hI
  clear hI
  go_enter Try.func70, Try.ntmps70
  go_wp2_with fail
  go_region
  all_goals
    go_wp2_with fail
    go_end0
    refine ⟨rfl, ?_, ?_⟩
    · exact Dk.set (w := w.drew) H.out 6 _ (by rw [HI.out]; rfl)
    · exact Touch.setCell (P := fun i => i = b) (Touch.refl _ w).drew rfl _
set_option maxHeartbeats 1000000 in
theorem duse_in {w : World} {b : Nat} {wp kp : Value} {Lf : ByteArray} {M : Int} {E : Bool} {Tk : ByteArray} {In Out : ByteArray} {most : Int} {ed sh : Bool} (h : Dk w b wp kp Lf M E Tk In Out most ed sh) (k : Int) (hk : 0 ≤ k) (hk2 : k ≤ In.size) (hl : In.size ≤ 4611686018427387903) (In' : ByteArray) (hI : In' = In.extract k.toNat In.size) :
    Calls Try.prog 70 #[.pointer (some ⟨b, 6, none⟩), .int .i64 k] w fun e w' => e = .returned (.tuple #[]) ∧ Dk w' b wp kp Lf M E Tk In' Out most ed sh ∧ Touch (fun i => i = b) w w' := by
  have c0 : w.cell? ⟨b, 6, none⟩ = some (.string In) := h.cell 6
  have c1 : w.cell? ⟨b, 7, none⟩ = some (.string Out) := h.cell 7
  have c2 : w.cell? ⟨b, 8, none⟩ = some (.int .i64 most) := h.cell 8
  have c3 : w.cell? ⟨b, 9, none⟩ = some (.bool ed) := h.cell 9
  have c4 : w.cell? ⟨b, 10, none⟩ = some (.bool sh) := h.cell 10
  have z0 : w.frozen? ⟨b, 6, none⟩ = false := h.froz 6
  have z1 : w.frozen? ⟨b, 7, none⟩ = false := h.froz 7
  have H := Lib.hid h
  clear h
  have HI := Lib.hid hI
  clear hI
  go_enter Try.func70, Try.ntmps70
  go_wp2_with fail
  go_region
  all_goals
    go_wp2_with fail
    go_end0
    refine ⟨rfl, ?_, ?_⟩
    · exact Dk.set (w := w.drew) H.out 6 _ (by rw [HI.out]; rfl)
    · exact Touch.setCell (P := fun i => i = b) (Touch.refl _ w).drew rfl _
set_option maxHeartbeats 1000000 in
theorem duse_out {w : World} {b : Nat} {wp kp : Value} {Lf : ByteArray} {M : Int} {E : Bool} {Tk : ByteArray} {In Out : ByteArray} {most : Int} {ed sh : Bool} (h : Dk w b wp kp Lf M E Tk In Out most ed sh) (k : Int) (hk : In.size < k) (hk0 : 0 ≤ k) (hl : In.size ≤ 4611686018427387903) (In' : ByteArray) (hI : In' = ByteArray.empty) :
    Calls Try.prog 70 #[.pointer (some ⟨b, 6, none⟩), .int .i64 k] w fun e w' => e = .returned (.tuple #[]) ∧ Dk w' b wp kp Lf M E Tk In' Out most ed sh ∧ Touch (fun i => i = b) w w' := by
  have c0 : w.cell? ⟨b, 6, none⟩ = some (.string In) := h.cell 6
  have c1 : w.cell? ⟨b, 7, none⟩ = some (.string Out) := h.cell 7
  have c2 : w.cell? ⟨b, 8, none⟩ = some (.int .i64 most) := h.cell 8
  have c3 : w.cell? ⟨b, 9, none⟩ = some (.bool ed) := h.cell 9
  have c4 : w.cell? ⟨b, 10, none⟩ = some (.bool sh) := h.cell 10
  have z0 : w.frozen? ⟨b, 6, none⟩ = false := h.froz 6
  have z1 : w.frozen? ⟨b, 7, none⟩ = false := h.froz 7
  have H := Lib.hid h
  clear h
  have HI := Lib.hid hI
  clear hI
  go_enter Try.func70, Try.ntmps70
  go_wp2_with fail
  go_region
  all_goals
    go_wp2_with fail
    go_end0
    refine ⟨rfl, ?_, ?_⟩
    · exact Dk.set (w := w.drew) H.out 6 _ (by rw [HI.out]; rfl)
    · exact Touch.setCell (P := fun i => i = b) (Touch.refl _ w).drew rfl _
theorem duse_any {w : World} {b : Nat} {wp kp : Value} {Lf : ByteArray} {M : Int} {E : Bool} {Tk : ByteArray} {In Out : ByteArray} {most : Int} {ed sh : Bool} (h : Dk w b wp kp Lf M E Tk In Out most ed sh) (k : Int) (hl : In.size ≤ 4611686018427387903) (In' : ByteArray) (hI : In'.data.toList = In.data.toList.drop k.toNat) :
    Calls Try.prog 70 #[.pointer (some ⟨b, 6, none⟩), .int .i64 k] w fun e w' => e = .returned (.tuple #[]) ∧ Dk w' b wp kp Lf M E Tk In' Out most ed sh ∧ Touch (fun i => i = b) w w' := by
  have hb := bsize In
  by_cases h0 : k < 0
  · exact duse_neg h k h0 hl In' (bytes_ext (by rw [hI, show k.toNat = 0 from by omega]; rfl))
  by_cases h1 : k ≤ In.size
  · refine duse_in h k (by omega) h1 hl In' (bytes_ext ?_)
    rw [hI, data_extract, List.take_of_length_le (by rw [List.length_drop]; omega)]
  · refine duse_out h k (by omega) (by omega) hl In' (bytes_ext ?_)
    rw [hI, List.drop_of_length_le (by omega)]
    simp
theorem dwrite_any {w : World} {b : Nat} {wp kp : Value} {Lf : ByteArray} {M : Int} {E : Bool} {Tk : ByteArray} {In Out : ByteArray} {most : Int} {ed sh : Bool} (h : Dk w b wp kp Lf M E Tk In Out most ed sh) (x : ByteArray) (hs : Out.size + x.size ≤ 9223372036854775807) (hc : sh = false) :
    Calls Try.prog 66 #[.pointer (some ⟨b, 6, none⟩), .string x] w fun e w' => e = .returned (.tuple #[]) ∧ Dk w' b wp kp Lf M E Tk In (Out ++ x) most ed sh ∧ Touch (fun i => i = b) w w' := by
  subst hc
  have c0 : w.cell? ⟨b, 6, none⟩ = some (.string In) := h.cell 6
  have c1 : w.cell? ⟨b, 7, none⟩ = some (.string Out) := h.cell 7
  have c2 : w.cell? ⟨b, 8, none⟩ = some (.int .i64 most) := h.cell 8
  have c3 : w.cell? ⟨b, 9, none⟩ = some (.bool ed) := h.cell 9
  have c4 : w.cell? ⟨b, 10, none⟩ = some (.bool false) := h.cell 10
  have z0 : w.frozen? ⟨b, 6, none⟩ = false := h.froz 6
  have z1 : w.frozen? ⟨b, 7, none⟩ = false := h.froz 7
  have H := Lib.hid h
  clear h
  have hadd := fun (W : World) => run_string_add_sum (P := Try.prog) (w := W) Out x (by omega)
  go_enter Try.func66, Try.ntmps66
  go_wp2_with fail
  go_end0
  exact ⟨rfl, Dk.set H.out 7 _ rfl, Touch.setCell (P := fun i => i = b) (Touch.refl _ w) rfl _⟩
theorem dwrite_shut {w : World} {b : Nat} {wp kp : Value} {Lf : ByteArray} {M : Int} {E : Bool} {Tk : ByteArray} {In Out : ByteArray} {most : Int} {ed sh : Bool} (h : Dk w b wp kp Lf M E Tk In Out most ed sh) (x : ByteArray) (hc : sh = true) :
    Calls Try.prog 66 #[.pointer (some ⟨b, 6, none⟩), .string x] w fun e w' => e = .returned (.tuple #[]) ∧ w = w' := by
  subst hc
  have c0 : w.cell? ⟨b, 6, none⟩ = some (.string In) := h.cell 6
  have c1 : w.cell? ⟨b, 7, none⟩ = some (.string Out) := h.cell 7
  have c2 : w.cell? ⟨b, 8, none⟩ = some (.int .i64 most) := h.cell 8
  have c3 : w.cell? ⟨b, 9, none⟩ = some (.bool ed) := h.cell 9
  have c4 : w.cell? ⟨b, 10, none⟩ = some (.bool true) := h.cell 10
  have z0 : w.frozen? ⟨b, 6, none⟩ = false := h.froz 6
  have z1 : w.frozen? ⟨b, 7, none⟩ = false := h.froz 7
  have H := Lib.hid h
  clear h
  go_enter Try.func66, Try.ntmps66
  go_wp2_with fail
  go_end0
  exact ⟨rfl, rfl⟩
set_option maxHeartbeats 1000000 in
theorem dltake_neg {w : World} {b : Nat} {wp kp : Value} {Lf : ByteArray} {M : Int} {E : Bool} {Tk : ByteArray} {In Out : ByteArray} {most : Int} {ed sh : Bool} (h : Dk w b wp kp Lf M E Tk In Out most ed sh) (k : Int) (hk : k < 0) (hl : Out.size ≤ 4611686018427387903) (x Out' : ByteArray) (hx : x = ByteArray.empty) (hO : Out' = Out) :
    Calls Try.prog 109 #[.pointer (some ⟨b, 6, none⟩), .int .i64 k] w fun e w' => e = .returned (.string x) ∧ Dk w' b wp kp Lf M E Tk In Out' most ed sh ∧ Touch (fun i => i = b) w w' := by
  have c0 : w.cell? ⟨b, 6, none⟩ = some (.string In) := h.cell 6
  have c1 : w.cell? ⟨b, 7, none⟩ = some (.string Out) := h.cell 7
  have c2 : w.cell? ⟨b, 8, none⟩ = some (.int .i64 most) := h.cell 8
  have c3 : w.cell? ⟨b, 9, none⟩ = some (.bool ed) := h.cell 9
  have c4 : w.cell? ⟨b, 10, none⟩ = some (.bool sh) := h.cell 10
  have z0 : w.frozen? ⟨b, 6, none⟩ = false := h.froz 6
  have z1 : w.frozen? ⟨b, 7, none⟩ = false := h.froz 7
  have H := Lib.hid h
  clear h
  have HX := Lib.hid hx
  have HO := Lib.hid hO
  clear hx hO
  go_enter Try.func109, Try.ntmps109
  go_wp2_with fail
  go_ret
  refine ⟨ret_string HX.out.symm, ?_, ?_⟩
  · exact Dk.set H.out 7 _ (by rw [HO.out]; rfl)
  · exact Touch.setCell (P := fun i => i = b) (Touch.refl _ w) rfl _
set_option maxHeartbeats 1000000 in
theorem dltake_in {w : World} {b : Nat} {wp kp : Value} {Lf : ByteArray} {M : Int} {E : Bool} {Tk : ByteArray} {In Out : ByteArray} {most : Int} {ed sh : Bool} (h : Dk w b wp kp Lf M E Tk In Out most ed sh) (k : Int) (hk : 0 ≤ k) (hk2 : k ≤ Out.size) (hl : Out.size ≤ 4611686018427387903) (x Out' : ByteArray) (hx : x = Out.extract 0 k.toNat) (hO : Out' = Out.extract k.toNat Out.size) :
    Calls Try.prog 109 #[.pointer (some ⟨b, 6, none⟩), .int .i64 k] w fun e w' => e = .returned (.string x) ∧ Dk w' b wp kp Lf M E Tk In Out' most ed sh ∧ Touch (fun i => i = b) w w' := by
  have c0 : w.cell? ⟨b, 6, none⟩ = some (.string In) := h.cell 6
  have c1 : w.cell? ⟨b, 7, none⟩ = some (.string Out) := h.cell 7
  have c2 : w.cell? ⟨b, 8, none⟩ = some (.int .i64 most) := h.cell 8
  have c3 : w.cell? ⟨b, 9, none⟩ = some (.bool ed) := h.cell 9
  have c4 : w.cell? ⟨b, 10, none⟩ = some (.bool sh) := h.cell 10
  have z0 : w.frozen? ⟨b, 6, none⟩ = false := h.froz 6
  have z1 : w.frozen? ⟨b, 7, none⟩ = false := h.froz 7
  have H := Lib.hid h
  clear h
  have HX := Lib.hid hx
  have HO := Lib.hid hO
  clear hx hO
  go_enter Try.func109, Try.ntmps109
  go_wp2_with fail
  go_ret
  refine ⟨ret_string HX.out.symm, ?_, ?_⟩
  · exact Dk.set H.out 7 _ (by rw [HO.out]; rfl)
  · exact Touch.setCell (P := fun i => i = b) (Touch.refl _ w) rfl _
set_option maxHeartbeats 1000000 in
theorem dltake_out {w : World} {b : Nat} {wp kp : Value} {Lf : ByteArray} {M : Int} {E : Bool} {Tk : ByteArray} {In Out : ByteArray} {most : Int} {ed sh : Bool} (h : Dk w b wp kp Lf M E Tk In Out most ed sh) (k : Int) (hk : Out.size < k) (hk0 : 0 ≤ k) (hl : Out.size ≤ 4611686018427387903) (x Out' : ByteArray) (hx : x = Out) (hO : Out' = ByteArray.empty) :
    Calls Try.prog 109 #[.pointer (some ⟨b, 6, none⟩), .int .i64 k] w fun e w' => e = .returned (.string x) ∧ Dk w' b wp kp Lf M E Tk In Out' most ed sh ∧ Touch (fun i => i = b) w w' := by
  have c0 : w.cell? ⟨b, 6, none⟩ = some (.string In) := h.cell 6
  have c1 : w.cell? ⟨b, 7, none⟩ = some (.string Out) := h.cell 7
  have c2 : w.cell? ⟨b, 8, none⟩ = some (.int .i64 most) := h.cell 8
  have c3 : w.cell? ⟨b, 9, none⟩ = some (.bool ed) := h.cell 9
  have c4 : w.cell? ⟨b, 10, none⟩ = some (.bool sh) := h.cell 10
  have z0 : w.frozen? ⟨b, 6, none⟩ = false := h.froz 6
  have z1 : w.frozen? ⟨b, 7, none⟩ = false := h.froz 7
  have H := Lib.hid h
  clear h
  have HX := Lib.hid hx
  have HO := Lib.hid hO
  clear hx hO
  go_enter Try.func109, Try.ntmps109
  go_wp2_with fail
  go_ret
  refine ⟨ret_string HX.out.symm, ?_, ?_⟩
  · exact Dk.set H.out 7 _ (by rw [HO.out]; rfl)
  · exact Touch.setCell (P := fun i => i = b) (Touch.refl _ w) rfl _
theorem dltake_any {w : World} {b : Nat} {wp kp : Value} {Lf : ByteArray} {M : Int} {E : Bool} {Tk : ByteArray} {In Out : ByteArray} {most : Int} {ed sh : Bool} (h : Dk w b wp kp Lf M E Tk In Out most ed sh) (k : Int) (hl : Out.size ≤ 4611686018427387903) (x Out' : ByteArray) (hx : x.data.toList = Out.data.toList.take k.toNat) (hO : Out'.data.toList = Out.data.toList.drop k.toNat) :
    Calls Try.prog 109 #[.pointer (some ⟨b, 6, none⟩), .int .i64 k] w fun e w' => e = .returned (.string x) ∧ Dk w' b wp kp Lf M E Tk In Out' most ed sh ∧ Touch (fun i => i = b) w w' := by
  have hb := bsize Out
  by_cases h0 : k < 0
  · have hk : k.toNat = 0 := by omega
    exact dltake_neg h k h0 hl x Out' (bytes_ext (by rw [hx, hk]; simp)) (bytes_ext (by rw [hO, hk]; rfl))
  by_cases h1 : k ≤ Out.size
  · exact dltake_in h k (by omega) h1 hl x Out' (bytes_ext (by rw [hx, data_extract, List.drop_zero, Nat.sub_zero])) (bytes_ext (by rw [hO, data_extract, List.take_of_length_le (by rw [List.length_drop]; omega)]))
  · exact dltake_out h k (by omega) (by omega) hl x Out' (bytes_ext (by rw [hx, List.take_of_length_le (by omega)])) (bytes_ext (by rw [hO, List.drop_of_length_le (by omega)]; simp))
end Go.Proofs.Ytekbmefdaepgcaa
