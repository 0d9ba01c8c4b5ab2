/- Links of package link: the calls that turn what waits. -/
import Derived.Test.YtekbmefdaepgcaaLinkYes
namespace Go.Proofs.Ytekbmefdaepgcaa
open Go.RowKit
theorem IsL.qm {w : World} {b : Nat} {d : LD} (h : IsL w b d) : d.most ≤ 65536 := by obtain ⟨R, f, n, hq, h1, _⟩ := h.inq; have := hq.most; omega
/-- A link in a world in which only its first queue's blocks have turned. -/
theorem IsL.inn {w w1 : World} {b : Nat} {d : LD} (h : IsL w b d) {I : List UInt8} (q : Que w1 d.bi d.gi d.most I) (t : Touch (fun i => i = d.bi ∨ i = d.gi) w w1) : IsL w1 b { d with I := I } := by
  obtain ⟨n1, n2, n3, n4, n5, n6, n7, n8⟩ := h.ne
  have := h.nb
  have := h.ng
  exact ⟨h.head.touch t (by omega), q, h.outq.touch t (by omega) (by omega), h.nb, h.ng⟩
theorem IsL.out {w w1 : World} {b : Nat} {d : LD} (h : IsL w b d) {O : List UInt8} (q : Que w1 d.bo d.go d.most O) (t : Touch (fun i => i = d.bo ∨ i = d.go) w w1) : IsL w1 b { d with O := O } := by
  obtain ⟨n1, n2, n3, n4, n5, n6, n7, n8⟩ := h.ne
  have := h.nb
  have := h.ng
  exact ⟨h.head.touch t (by omega), h.inq.touch t (by omega) (by omega), q, h.nb, h.ng⟩
theorem IsL.far {P : Nat → Prop} {w w1 : World} {b : Nat} {d : LD} (h : IsL w b d) (t : Touch P w w1) (hP : ∀ i, d.blocks b i → ¬ P i) : IsL w1 b d :=
  ⟨h.head.touch t (hP _ (.inl rfl)), h.inq.touch t (hP _ (.inr (.inl rfl))) (hP _ (.inr (.inr (.inl rfl)))), h.outq.touch t (hP _ (.inr (.inr (.inr (.inl rfl))))) (hP _ (.inr (.inr (.inr (.inr rfl))))), h.nb, h.ng⟩
theorem use_any {w : World} {b : Nat} {d : LD} (h : IsL w b d) (k : Int) (hk : k ≤ 9223372036854775807) : Calls Try.prog 69 #[.pointer (some ⟨b, 0, none⟩), .int .i64 k] w fun e w' => e = .returned (.tuple #[]) ∧ IsL w' b { d with I := d.I.drop k.toNat } ∧ Touch (d.blocks b) w w' := by
  have c0 : w.cell? ⟨b, 0, none⟩ = some (.pointer (some ⟨d.bi, 0, none⟩)) := h.head.cell 0
  have c1 : w.cell? ⟨b, 1, none⟩ = some (.pointer (some ⟨d.bo, 0, none⟩)) := h.head.cell 1
  have c2 : w.cell? ⟨b, 2, none⟩ = some (.string d.more) := h.head.cell 2
  have c3 : w.cell? ⟨b, 3, none⟩ = some (.bool d.ended) := h.head.cell 3
  have c4 : w.cell? ⟨b, 4, none⟩ = some (.bool d.shut) := h.head.cell 4
  have H := Lib.hid h
  clear h
  go_enter Try.func69, Try.ntmps69
  go_wp2_with fail
  refine (made_yes H.out).mono ?_
  rintro e w' ⟨rfl, rfl⟩
  go_wp2_with fail
  refine (take_any H.out.inq k hk).mono ?_
  rintro e w2 ⟨rfl, q2, t2⟩
  go_wp2_with fail
  go_end0
  exact ⟨rfl, H.out.inn q2 t2, t2.mono fun i _ h => d.of_in b i h⟩
theorem give_any {w : World} {b : Nat} {d : LD} (h : IsL w b d) (x : ByteArray) (hs : x.size ≤ 9223372036854775807) (he : d.ended = false) (hc : d.shut = false) : Calls Try.prog 103 #[.pointer (some ⟨b, 0, none⟩), .string x] w fun e w' =>
    e = .returned (.int .i64 (min x.size (d.most - d.I.length) : Nat)) ∧ IsL w' b { d with I := d.I ++ x.data.toList.take (d.most - d.I.length) } ∧ Touch (d.blocks b) w w' := by
  obtain ⟨k, hk⟩ : ∃ k, k = min x.size (d.most - d.I.length) := ⟨_, rfl⟩
  rw [← hk]
  have HK := Lib.hid (show (k : Int) = (min x.size (d.most - d.I.length) : Nat) by rw [hk])
  clear hk
  have c0 : w.cell? ⟨b, 0, none⟩ = some (.pointer (some ⟨d.bi, 0, none⟩)) := h.head.cell 0
  have c1 : w.cell? ⟨b, 1, none⟩ = some (.pointer (some ⟨d.bo, 0, none⟩)) := h.head.cell 1
  have c2 : w.cell? ⟨b, 2, none⟩ = some (.string d.more) := h.head.cell 2
  have c3 : w.cell? ⟨b, 3, none⟩ = some (.bool d.ended) := h.head.cell 3
  have c4 : w.cell? ⟨b, 4, none⟩ = some (.bool d.shut) := h.head.cell 4
  have H := Lib.hid h
  clear h
  rw [he] at c3
  rw [hc] at c4
  clear he hc
  go_enter Try.func103, Try.ntmps103
  go_wp2_with fail
  refine (made_yes H.out).mono ?_
  rintro e w' ⟨rfl, rfl⟩
  go_wp2_with fail
  refine (put_at H.out.inq x hs k _ HK.out rfl).mono ?_
  rintro e w2 ⟨rfl, q2, t2⟩
  go_wp2_with fail
  go_ret
  exact ⟨rfl, H.out.inn q2 t2, t2.mono fun i _ h => d.of_in b i h⟩
theorem give_shut {w : World} {b : Nat} {d : LD} (h : IsL w b d) (x : ByteArray) (he : (d.ended || d.shut) = true) : Calls Try.prog 103 #[.pointer (some ⟨b, 0, none⟩), .string x] w fun e w' => e = .returned (.int .i64 0) ∧ w = w' := by
  have c0 : w.cell? ⟨b, 0, none⟩ = some (.pointer (some ⟨d.bi, 0, none⟩)) := h.head.cell 0
  have c1 : w.cell? ⟨b, 1, none⟩ = some (.pointer (some ⟨d.bo, 0, none⟩)) := h.head.cell 1
  have c2 : w.cell? ⟨b, 2, none⟩ = some (.string d.more) := h.head.cell 2
  have c3 : w.cell? ⟨b, 3, none⟩ = some (.bool d.ended) := h.head.cell 3
  have c4 : w.cell? ⟨b, 4, none⟩ = some (.bool d.shut) := h.head.cell 4
  have H := Lib.hid h
  clear h
  cases h3 : d.ended
  · rw [h3, Bool.false_or] at he
    rw [h3] at c3
    rw [he] at c4
    clear he h3
    go_enter Try.func103, Try.ntmps103
    go_wp2_with fail
    refine (made_yes H.out).mono ?_
    rintro e w' ⟨rfl, rfl⟩
    go_wp2_with fail
    go_ret
    exact ⟨rfl, rfl⟩
  · rw [h3] at c3
    clear he h3
    go_enter Try.func103, Try.ntmps103
    go_wp2_with fail
    refine (made_yes H.out).mono ?_
    rintro e w' ⟨rfl, rfl⟩
    go_wp2_with fail
    go_ret
    exact ⟨rfl, rfl⟩
set_option maxHeartbeats 1000000 in
theorem write_any {w : World} {b : Nat} {d : LD} (h : IsL w b d) (x : ByteArray) (hs : d.more.size + x.size ≤ 4611686018427387903) (hc : d.shut = false) : Calls Try.prog 65 #[.pointer (some ⟨b, 0, none⟩), .string x] w fun e w' =>
    e = .returned (.tuple #[]) ∧ IsL w' b { d with more := d.more ++ x }.fill ∧ Touch (d.blocks b) w w' := by
  have z2 : w.frozen? ⟨b, 2, none⟩ = false := h.head.froz 2
  have z4 : w.frozen? ⟨b, 4, none⟩ = false := h.head.froz 4
  have c0 : w.cell? ⟨b, 0, none⟩ = some (.pointer (some ⟨d.bi, 0, none⟩)) := h.head.cell 0
  have c1 : w.cell? ⟨b, 1, none⟩ = some (.pointer (some ⟨d.bo, 0, none⟩)) := h.head.cell 1
  have c2 : w.cell? ⟨b, 2, none⟩ = some (.string d.more) := h.head.cell 2
  have c3 : w.cell? ⟨b, 3, none⟩ = some (.bool d.ended) := h.head.cell 3
  have c4 : w.cell? ⟨b, 4, none⟩ = some (.bool d.shut) := h.head.cell 4
  have H := Lib.hid h
  clear h
  rw [hc] at c4
  clear hc
  have hadd := fun (W : World) => run_string_add_sum (P := Try.prog) (w := W) d.more x (by omega)
  have hsum : (d.more ++ x).size ≤ 9223372036854775807 := by rw [ByteArray.size_append]; omega
  go_enter Try.func65, Try.ntmps65
  go_wp2_with fail
  refine (made_yes H.out).mono ?_
  rintro e w' ⟨rfl, rfl⟩
  go_wp2_with fail
  clear hadd
  have hd := H.out
  have h1 : IsL (w.setCell ⟨b, 2, none⟩ (.string (d.more ++ x))) b { d with more := d.more ++ x } := IsL.store (d := d) (d' := { d with more := d.more ++ x }) hd.head hd.inq hd.outq hd.nb hd.ng 2 _ rfl rfl rfl rfl rfl rfl
  refine (fill_any h1 hsum).mono ?_
  rintro e w2 ⟨rfl, h2, t2⟩
  go_wp2_with fail
  go_end0
  exact ⟨rfl, h2, ((Touch.refl _ _).setCell (d.of_b b) _).trans t2⟩
theorem write_shut {w : World} {b : Nat} {d : LD} (h : IsL w b d) (x : ByteArray) (hc : d.shut = true) : Calls Try.prog 65 #[.pointer (some ⟨b, 0, none⟩), .string x] w fun e w' => e = .returned (.tuple #[]) ∧ w = w' := by
  have c0 : w.cell? ⟨b, 0, none⟩ = some (.pointer (some ⟨d.bi, 0, none⟩)) := h.head.cell 0
  have c1 : w.cell? ⟨b, 1, none⟩ = some (.pointer (some ⟨d.bo, 0, none⟩)) := h.head.cell 1
  have c2 : w.cell? ⟨b, 2, none⟩ = some (.string d.more) := h.head.cell 2
  have c3 : w.cell? ⟨b, 3, none⟩ = some (.bool d.ended) := h.head.cell 3
  have c4 : w.cell? ⟨b, 4, none⟩ = some (.bool d.shut) := h.head.cell 4
  have H := Lib.hid h
  clear h
  rw [hc] at c4
  clear hc
  go_enter Try.func65, Try.ntmps65
  go_wp2_with fail
  refine (made_yes H.out).mono ?_
  rintro e w' ⟨rfl, rfl⟩
  go_wp2_with fail
  go_end0
  exact ⟨rfl, rfl⟩
set_option maxHeartbeats 1000000 in
theorem shut_any {w : World} {b : Nat} {d : LD} (h : IsL w b d) : Calls Try.prog 71 #[.pointer (some ⟨b, 0, none⟩)] w fun e w' => e = .returned (.tuple #[]) ∧ IsL w' b { d with shut := true, I := [] } ∧ Touch (d.blocks b) w w' := by
  have hle := h.inq.le
  have hm := h.qm
  have z2 : w.frozen? ⟨b, 2, none⟩ = false := h.head.froz 2
  have z4 : w.frozen? ⟨b, 4, none⟩ = false := h.head.froz 4
  have c0 : w.cell? ⟨b, 0, none⟩ = some (.pointer (some ⟨d.bi, 0, none⟩)) := h.head.cell 0
  have c1 : w.cell? ⟨b, 1, none⟩ = some (.pointer (some ⟨d.bo, 0, none⟩)) := h.head.cell 1
  have c2 : w.cell? ⟨b, 2, none⟩ = some (.string d.more) := h.head.cell 2
  have c3 : w.cell? ⟨b, 3, none⟩ = some (.bool d.ended) := h.head.cell 3
  have c4 : w.cell? ⟨b, 4, none⟩ = some (.bool d.shut) := h.head.cell 4
  have H := Lib.hid h
  clear h
  go_enter Try.func71, Try.ntmps71
  go_wp2_with fail
  refine (made_yes H.out).mono ?_
  rintro e w' ⟨rfl, rfl⟩
  go_wp2_with fail
  have hd := H.out
  have h1 : IsL (w.setCell ⟨b, 4, none⟩ (.bool true)) b { d with shut := true } := IsL.store (d := d) (d' := { d with shut := true }) hd.head hd.inq hd.outq hd.nb hd.ng 4 _ rfl rfl rfl rfl rfl rfl
  obtain ⟨w1, hw1⟩ : ∃ x, x = w.setCell ⟨b, 4, none⟩ (.bool true) := ⟨_, rfl⟩
  have t1 : Touch (d.blocks b) w w1 := by rw [hw1]; exact (Touch.refl _ _).setCell (d.of_b b) _
  rw [← hw1] at h1 ⊢
  have H1 := Lib.hid h1
  have c0' : w1.cell? ⟨b, 0, none⟩ = some (.pointer (some ⟨d.bi, 0, none⟩)) := h1.head.cell 0
  have hb1 : ¬ (b = d.bi ∨ b = d.gi) := by have := h1.ne; simp only at this; omega
  have HT := Lib.hid (show ([] : List UInt8) = d.I.drop ((d.I.length : Int)).toNat by rw [Int.toNat_natCast, List.drop_length])
  clear h1 hw1 hd
  go_region_held3 (fun w' => w'.cell? ⟨b, 0, none⟩ = some (.pointer (some ⟨d.bi, 0, none⟩))) (first | exact c0' | assumption | exact Touch.cell (by assumption) hb1 (by assumption)) ((first
    | (go_at_call 76; refine (len_any H1.out.inq.drew).mono ?_; rintro e w' ⟨rfl, rfl⟩)
    | (go_at_call 110; refine (take_at H1.out.inq.drew (d.I.length : Int) (by omega) _ [] rfl HT.out).mono ?_; rintro e w2 ⟨rfl, q2, t2⟩; have Q2 := Lib.hid q2; clear q2)))
  go_wp2_with fail
  go_end0
  have h2 := IsL.inn (w := w1.drew) (d := { d with shut := true }) (H1.out.far (P := fun _ => False) (Touch.refl _ _).drew (fun _ _ => id)) Q2.out t2
  exact ⟨rfl, h2, t1.drew.trans (t2.mono fun i _ h => d.of_in b i h)⟩
end Go.Proofs.Ytekbmefdaepgcaa
