/- Links of package link: what each call does with one that New made. -/
import Derived.Test.YtekbmefdaepgcaaLink
import Derived.Deep.RegionLaw
namespace Go.Proofs.Ytekbmefdaepgcaa
open Go.RowKit
theorem peek_q {w : World} {b g most : Nat} {S : List UInt8} (h : Que w b g most S) (k : Int) (hk : k ≤ 9223372036854775807) (sv : ByteArray) (hs : sv = ⟨(S.take k.toNat).toArray⟩) :
    Calls Try.prog 75 #[.pointer (some ⟨b, 0, none⟩), .int .i64 k] w fun e w' => e = .returned (.string sv) ∧ ∃ m, w' = w.drewN m :=
  (peek_at h k hk sv hs).mono fun _ _ ⟨h1, m, h2⟩ => ⟨h1, m, h2.symm⟩
theorem end_any {w : World} {b : Nat} {d : LD} (h : IsL w b d) : Calls Try.prog 104 #[.pointer (some ⟨b, 0, none⟩)] w fun e w' => e = .returned (.tuple #[]) ∧ IsL w' b { d with ended := true } ∧ Touch (d.blocks b) w w' := by
  have z3 : w.frozen? ⟨b, 3, none⟩ = false := h.head.froz 3
  have c0 : w.cell? ⟨b, 0, none⟩ = some (.pointer (some ⟨d.bi, 0, none⟩)) := h.head.cell 0
  have c1 : w.cell? ⟨b, 1, none⟩ = some (.pointer (some ⟨d.bo, 0, none⟩)) := h.head.cell 1
  have c2 : w.cell? ⟨b, 2, none⟩ = some (.string d.more) := h.head.cell 2
  have c3 : w.cell? ⟨b, 3, none⟩ = some (.bool d.ended) := h.head.cell 3
  have c4 : w.cell? ⟨b, 4, none⟩ = some (.bool d.shut) := h.head.cell 4
  have H := Lib.hid h
  clear h
  go_enter Try.func104, Try.ntmps104
  go_wp2_with fail
  refine (made_yes H.out).mono ?_
  rintro e w' ⟨rfl, rfl⟩
  go_wp2_with fail
  go_end0
  have hd := H.out
  exact ⟨rfl, IsL.store (d := d) (d' := { d with ended := true }) hd.head hd.inq hd.outq hd.nb hd.ng 3 _ rfl rfl rfl rfl rfl rfl, (Touch.refl _ _).setCell (d.of_b b) _⟩
set_option maxHeartbeats 1000000 in
theorem left_any {w : World} {b : Nat} {d : LD} (h : IsL w b d) (x : ByteArray) (hx : x.data.toList = d.I) : Calls Try.prog 23 #[.pointer (some ⟨b, 0, none⟩)] w fun e w' => e = .returned (.string x) ∧ ∃ n, w.drewN n = w' := by
  have HP := Lib.hid (show x = ⟨(d.I.take ((d.I.length : Int)).toNat).toArray⟩ from bytes_ext (by rw [hx, Int.toNat_natCast, List.take_of_length_le (Nat.le_refl _)]))
  have hle := h.inq.le
  have hm : d.most ≤ 65536 := by obtain ⟨R, f, n, hq, h1, _⟩ := h.inq; have := hq.most; omega
  have c0 : w.cell? ⟨b, 0, none⟩ = some (.pointer (some ⟨d.bi, 0, none⟩)) := h.head.cell 0
  have c1 : w.cell? ⟨b, 1, none⟩ = some (.pointer (some ⟨d.bo, 0, none⟩)) := h.head.cell 1
  have c2 : w.cell? ⟨b, 2, none⟩ = some (.string d.more) := h.head.cell 2
  have c3 : w.cell? ⟨b, 3, none⟩ = some (.bool d.ended) := h.head.cell 3
  have c4 : w.cell? ⟨b, 4, none⟩ = some (.bool d.shut) := h.head.cell 4
  have H := Lib.hid h
  clear h
  go_enter Try.func23, Try.ntmps23
  go_wp2_with fail
  refine (made_yes H.out).mono ?_
  rintro e w' ⟨rfl, rfl⟩
  go_wp2_with fail
  go_quiet ((first
    | (go_at_call 76; exact Calls.quiet_of_same (len_at (H.out.inq.drewN _) d.I.length rfl))
    | (go_at_call 75; exact Calls.quiet_of (peek_q (H.out.inq.drewN _) (d.I.length : Int) (by omega) x HP.out))))
  go_wp2_with fail
  go_ret
  exact ⟨rfl, _, rfl⟩
set_option maxHeartbeats 1000000 in
theorem waits_any {w : World} {b : Nat} {d : LD} (h : IsL w b d) (hs : d.more.size ≤ 4611686018427387903) : Calls Try.prog 25 #[.pointer (some ⟨b, 0, none⟩)] w fun e w' => e = .returned (.int .i64 (d.O.length + d.more.size)) ∧ ∃ n, w.drewN n = w' := by
  have hle := h.outq.le
  have hm : d.most ≤ 65536 := by obtain ⟨R, f, n, hq, h1, _⟩ := h.inq; have := hq.most; omega
  have c0 : w.cell? ⟨b, 0, none⟩ = some (.pointer (some ⟨d.bi, 0, none⟩)) := h.head.cell 0
  have c1 : w.cell? ⟨b, 1, none⟩ = some (.pointer (some ⟨d.bo, 0, none⟩)) := h.head.cell 1
  have c2 : w.cell? ⟨b, 2, none⟩ = some (.string d.more) := h.head.cell 2
  have c3 : w.cell? ⟨b, 3, none⟩ = some (.bool d.ended) := h.head.cell 3
  have c4 : w.cell? ⟨b, 4, none⟩ = some (.bool d.shut) := h.head.cell 4
  have H := Lib.hid h
  clear h
  go_enter Try.func25, Try.ntmps25
  go_wp2_with fail
  refine (made_yes H.out).mono ?_
  rintro e w' ⟨rfl, rfl⟩
  go_wp2_with fail
  go_quiet ((go_at_call 76; exact Calls.quiet_of_same (len_at (H.out.outq.drewN _) d.O.length rfl)))
  go_wp2_with fail
  go_ret
  exact ⟨rfl, _, rfl⟩
set_option maxHeartbeats 1000000 in
theorem dry_any {w : World} {b : Nat} {d : LD} (h : IsL w b d) : Calls Try.prog 24 #[.pointer (some ⟨b, 0, none⟩)] w fun e w' => e = .returned (.bool (d.ended && decide (d.I.length = 0))) ∧ w = w' := by
  have hle := h.inq.le
  have c0 : w.cell? ⟨b, 0, none⟩ = some (.pointer (some ⟨d.bi, 0, none⟩)) := h.head.cell 0
  have c1 : w.cell? ⟨b, 1, none⟩ = some (.pointer (some ⟨d.bo, 0, none⟩)) := h.head.cell 1
  have c2 : w.cell? ⟨b, 2, none⟩ = some (.string d.more) := h.head.cell 2
  have c3 : w.cell? ⟨b, 3, none⟩ = some (.bool d.ended) := h.head.cell 3
  have c4 : w.cell? ⟨b, 4, none⟩ = some (.bool d.shut) := h.head.cell 4
  have H := Lib.hid h
  clear h
  cases hb : d.ended
  · rw [hb] at c3
    have HB := Lib.hid hb
    clear hb
    go_enter Try.func24, Try.ntmps24
    go_wp2_with fail
    refine (made_yes H.out).mono ?_
    rintro e w' ⟨rfl, rfl⟩
    go_wp2_with fail
    go_ret
    exact ⟨rfl, rfl⟩
  · rw [hb] at c3
    have HB := Lib.hid hb
    clear hb
    obtain ⟨m, hm⟩ : ∃ m, m = d.I.length := ⟨_, rfl⟩
    have HM := Lib.hid hm
    rw [← hm]
    clear hm hle
    by_cases h0 : m = 0
    all_goals
      first | subst h0 | have h0' : ((m : Int) == 0) = false := by (rw [beq_eq_false_iff_ne]; omega)
      go_enter Try.func24, Try.ntmps24
      go_wp2_with fail
      refine (made_yes H.out).mono ?_
      rintro e w' ⟨rfl, rfl⟩
      go_wp2_with fail
      refine (len_at H.out.inq _ HM.out).mono ?_
      rintro e w' ⟨rfl, rfl⟩
      go_wp2_with fail
      go_ret
      exact ⟨by simp [*], rfl⟩
end Go.Proofs.Ytekbmefdaepgcaa
