/- Package abutmentlaw38's lives. -/
import Derived.Test.YtmkjkodblincbaaLinkLaw
namespace Go.Proofs.Ytmkjkodblincbaa
open Go.RowKit
theorem lnew_at (most : Nat) (hm : most ≤ 65536) (w : World) : Calls Try.prog 30 #[.int .i64 most] w fun e w' =>
    ∃ b bi gi bo go, e = .returned (.pointer (some ⟨b, 0, none⟩)) ∧ IsL w' b ⟨bi, gi, bo, go, most, [], [], ⟨#[]⟩, false, false⟩ ∧ (∀ i, (⟨bi, gi, bo, go, most, [], [], ⟨#[]⟩, false, false⟩ : LD).blocks b i → w.heap.size ≤ i) ∧ Below w.heap.size w w' := by
  refine (lnew_any most hm w).mono ?_
  rintro e w1 ⟨b, ⟨bi, gi, bo, go, m, I, O, more, en, sh⟩, rfl, h, h1, h2, h3, h4, h5, h6, h7, h8⟩
  simp only at h1 h2 h3 h4 h5 h6
  subst h1 h2 h3 h4 h5 h6
  exact ⟨b, bi, gi, bo, go, rfl, h, h7, h8⟩
theorem give_at {w : World} {b : Nat} {d : LD} (h : IsL w b d) (x : ByteArray) (hs : x.size ≤ 9223372036854775807) (he : d.ended = false) (hc : d.shut = false) (k : Int) (hk : k = (min x.size (d.most - d.I.length) : Nat)) (d' : LD) (hd : d' = { d with I := d.I ++ x.data.toList.take (d.most - d.I.length) }) :
    Calls Try.prog 43 #[.pointer (some ⟨b, 0, none⟩), .string x] w fun e w' => e = .returned (.int .i64 k) ∧ IsL w' b d' ∧ Touch (d.blocks b) w w' := by
  rw [hk, hd]; exact give_any h x hs he hc
theorem write_at {w : World} {b : Nat} {d : LD} (h : IsL w b d) (x : ByteArray) (hs : d.more.size + x.size ≤ 4611686018427387903) (hc : d.shut = false) (d' : LD) (hd : d' = LD.fill { d with more := d.more ++ x }) :
    Calls Try.prog 41 #[.pointer (some ⟨b, 0, none⟩), .string x] w fun e w' => e = .returned (.tuple #[]) ∧ IsL w' b d' ∧ Touch (d.blocks b) w w' := by
  rw [hd]; exact write_any h x hs hc
theorem ltake_at {w : World} {b : Nat} {d : LD} (h : IsL w b d) (n : Int) (hn : n ≤ 9223372036854775807) (hn0 : -9223372036854775808 ≤ n) (hs : d.more.size ≤ 4611686018427387903) (x : ByteArray) (hx : x.data.toList = (d.O ++ d.more.data.toList).take n.toNat) (d' : LD) (hd : d' = (d.took n).fill) :
    Calls Try.prog 44 #[.pointer (some ⟨b, 0, none⟩), .int .i64 n] w fun e w' => e = .returned (.string x) ∧ IsL w' b d' ∧ Touch (d.blocks b) w w' := by
  rw [hd]; exact ltake_any h n hn hn0 hs x hx
theorem free_at {w : World} {b : Nat} {d : LD} (h : IsL w b d) (v : Bool) (hv : v = d.more.toList.isEmpty) : Calls Try.prog 36 #[.pointer (some ⟨b, 0, none⟩)] w fun e w' => e = .returned (.bool v) ∧ w = w' := by
  rw [hv]; exact free_any h
theorem waits_at {w : World} {b : Nat} {d : LD} (h : IsL w b d) (hs : d.more.size ≤ 4611686018427387903) (k : Int) (hk : k = (d.O.length + d.more.size : Nat)) : Calls Try.prog 35 #[.pointer (some ⟨b, 0, none⟩)] w fun e w' => e = .returned (.int .i64 k) ∧ ∃ n, w.drewN n = w' := by
  rw [hk]; exact waits_any h hs
theorem bemp1 : false = (⟨#[122]⟩ : ByteArray).toList.isEmpty := by rw [ByteArray.toList]; rw [ByteArray.toList.loop]; simp [ByteArray.size]; rw [ByteArray.toList.loop]; simp [ByteArray.size]
theorem bemp0 : true = (⟨#[]⟩ : ByteArray).toList.isEmpty := by rw [ByteArray.toList]; rw [ByteArray.toList.loop]; simp [ByteArray.size]
theorem lives_took (bi gi bo go : Nat) : (⟨bi, gi, bo, go, 2, [97, 98], [121, 122], ⟨#[]⟩, false, false⟩ : LD) = (LD.took ⟨bi, gi, bo, go, 2, [97, 98], [120, 121], ⟨#[122]⟩, false, false⟩ 1).fill := by
  have e1 : LD.took ⟨bi, gi, bo, go, 2, [97, 98], [120, 121], ⟨#[122]⟩, false, false⟩ 1 = ⟨bi, gi, bo, go, 2, [97, 98], [121], ⟨#[122]⟩, false, false⟩ := by
    unfold LD.took
    have h1 : LD.rest ⟨bi, gi, bo, go, 2, [97, 98], [120, 121], ⟨#[122]⟩, false, false⟩ 1 = 0 := rfl
    rw [h1]
    have h2 : (⟨#[122]⟩ : ByteArray).extract 0 (⟨#[122]⟩ : ByteArray).size = ⟨#[122]⟩ := by decide
    show (⟨bi, gi, bo, go, 2, [97, 98], [121], (⟨#[122]⟩ : ByteArray).extract 0 (⟨#[122]⟩ : ByteArray).size, false, false⟩ : LD) = _
    rw [h2]
  rw [e1]
  unfold LD.fill
  have h2 : (⟨#[122]⟩ : ByteArray).extract 1 (⟨#[122]⟩ : ByteArray).size = ⟨#[]⟩ := by decide
  show _ = (⟨bi, gi, bo, go, 2, [97, 98], [121, 122], (⟨#[122]⟩ : ByteArray).extract 1 (⟨#[122]⟩ : ByteArray).size, false, false⟩ : LD)
  rw [h2]
theorem lives_x : (⟨#[120]⟩ : ByteArray).data.toList = ([120, 121] ++ (⟨#[122]⟩ : ByteArray).data.toList).take (1 : Int).toNat := rfl
set_option maxHeartbeats 1000000 in
theorem llives (w : World) : Calls Try.prog 31 #[] w fun e w' => e = .returned (.bool true) ∧ Below w.heap.size w w' := by
  go_enter Try.func31, Try.ntmps31
  go_wp2_with fail
  refine (lnew_at 2 (by omega) _).mono ?_
  rintro e w1 ⟨b, bi, gi, bo, go, rfl, l1, f1, b1⟩
  have L1 := Lib.hid l1
  have F1 := Lib.hid f1
  have B1 := Lib.hid b1
  clear l1 f1 b1
  go_wp2_with fail
  refine (lnew_low (-1) (by omega) _).mono ?_
  rintro e w2 ⟨rfl, rfl⟩
  go_wp2_with fail
  refine (give_at L1.out ⟨#[97, 98, 99]⟩ (by decide) rfl rfl 2 rfl ⟨bi, gi, bo, go, 2, [97, 98], [], ⟨#[]⟩, false, false⟩ rfl).mono ?_
  rintro e w3 ⟨rfl, l3, t3⟩
  have L3 := Lib.hid l3
  have T3 := Lib.hid t3
  clear l3 t3
  go_wp2_with fail
  refine (write_at L3.out ⟨#[120, 121, 122]⟩ (show 0 + 3 ≤ 4611686018427387903 by omega) rfl ⟨bi, gi, bo, go, 2, [97, 98], [120, 121], ⟨#[122]⟩, false, false⟩ rfl).mono ?_
  rintro e w4 ⟨rfl, l4, t4⟩
  have L4 := Lib.hid l4
  have T4 := Lib.hid t4
  clear l4 t4
  go_wp2_with fail
  refine (free_at L4.out false bemp1).mono ?_
  rintro e w5 ⟨rfl, rfl⟩
  go_wp2_with fail
  refine (ltake_at L4.out 1 (by omega) (by omega) (show 1 ≤ 4611686018427387903 by omega) ⟨#[120]⟩ lives_x ⟨bi, gi, bo, go, 2, [97, 98], [121, 122], ⟨#[]⟩, false, false⟩ (lives_took bi gi bo go)).mono ?_
  rintro e w5 ⟨rfl, l5, t5⟩
  have L5 := Lib.hid l5
  have T5 := Lib.hid t5
  clear l5 t5
  go_wp2_with fail
  refine (free_at L5.out true bemp0).mono ?_
  rintro e w6 ⟨rfl, rfl⟩
  go_wp2_with fail
  refine (waits_at L5.out (show 0 ≤ 4611686018427387903 by omega) 2 rfl).mono ?_
  rintro e w6 ⟨rfl, n, rfl⟩
  go_wp2_with fail
  go_ret
  refine ⟨rfl, B1.out.trans (Touch.below (P := LD.blocks ⟨bi, gi, bo, go, 2, [], [], ⟨#[]⟩, false, false⟩ b) ?_ (fun k hk h => by have := F1.out k h; omega) B1.out.size)⟩
  exact ((T3.out.trans T4.out).trans T5.out).drewN n
end Go.Proofs.Ytmkjkodblincbaa
