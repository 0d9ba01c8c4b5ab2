/- Package abutmentlaw38's lives. -/
import Derived.Test.YtekbmefdaepgcaaLinkLaw
namespace Go.Proofs.Ytekbmefdaepgcaa
open Go.RowKit
theorem lnew_at (most : Nat) (hm : most ≤ 65536) (w : World) : Calls Try.prog 19 #[.int .i64 most] w fun e w' =>
    ∃ b bi gi bo go, e = .returned (.pointer (some ⟨b, 0, none⟩)) ∧ IsL w' b ⟨bi, gi, bo, go, most, [], [], ⟨#[]⟩, false, false⟩ ∧ (∀ i, (⟨bi, gi, bo, go, most, [], [], ⟨#[]⟩, false, false⟩ : LD).blocks b i → w.heap.size ≤ i) ∧ Below w.heap.size w w' := by
  refine (lnew_any most hm w).mono ?_
  rintro e w1 ⟨b, ⟨bi, gi, bo, go, m, I, O, more, en, sh⟩, rfl, h, h1, h2, h3, h4, h5, h6, h7, h8⟩
  simp only at h1 h2 h3 h4 h5 h6
  subst h1 h2 h3 h4 h5 h6
  exact ⟨b, bi, gi, bo, go, rfl, h, h7, h8⟩
theorem give_at {w : World} {b : Nat} {d : LD} (h : IsL w b d) (x : ByteArray) (hs : x.size ≤ 9223372036854775807) (he : d.ended = false) (hc : d.shut = false) (k : Int) (hk : k = (min x.size (d.most - d.I.length) : Nat)) (d' : LD) (hd : d' = { d with I := d.I ++ x.data.toList.take (d.most - d.I.length) }) :
    Calls Try.prog 103 #[.pointer (some ⟨b, 0, none⟩), .string x] w fun e w' => e = .returned (.int .i64 k) ∧ IsL w' b d' ∧ Touch (d.blocks b) w w' := by
  rw [hk, hd]; exact give_any h x hs he hc
theorem write_at {w : World} {b : Nat} {d : LD} (h : IsL w b d) (x : ByteArray) (hs : d.more.size + x.size ≤ 4611686018427387903) (hc : d.shut = false) (d' : LD) (hd : d' = LD.fill { d with more := d.more ++ x }) :
    Calls Try.prog 65 #[.pointer (some ⟨b, 0, none⟩), .string x] w fun e w' => e = .returned (.tuple #[]) ∧ IsL w' b d' ∧ Touch (d.blocks b) w w' := by
  rw [hd]; exact write_any h x hs hc
theorem ltake_at {w : World} {b : Nat} {d : LD} (h : IsL w b d) (n : Int) (hn : n ≤ 9223372036854775807) (hn0 : -9223372036854775808 ≤ n) (hs : d.more.size ≤ 4611686018427387903) (x : ByteArray) (hx : x.data.toList = (d.O ++ d.more.data.toList).take n.toNat) (d' : LD) (hd : d' = (d.took n).fill) :
    Calls Try.prog 108 #[.pointer (some ⟨b, 0, none⟩), .int .i64 n] w fun e w' => e = .returned (.string x) ∧ IsL w' b d' ∧ Touch (d.blocks b) w w' := by
  rw [hd]; exact ltake_any h n hn hn0 hs x hx
theorem waits_at {w : World} {b : Nat} {d : LD} (h : IsL w b d) (hs : d.more.size ≤ 4611686018427387903) (k : Int) (hk : k = (d.O.length + d.more.size : Nat)) : Calls Try.prog 25 #[.pointer (some ⟨b, 0, none⟩)] w fun e w' => e = .returned (.int .i64 k) ∧ ∃ n, w.drewN n = w' := by
  rw [hk]; exact waits_any h hs
theorem bemp1 : false = (⟨#[122]⟩ : ByteArray).toList.isEmpty := by rw [ByteArray.toList]; rw [ByteArray.toList.loop]; simp [ByteArray.size]; rw [ByteArray.toList.loop]; simp [ByteArray.size]
theorem bemp0 : true = (⟨#[]⟩ : ByteArray).toList.isEmpty := by rw [ByteArray.toList]; rw [ByteArray.toList.loop]; simp [ByteArray.size]
theorem lives_took (bi gi bo go : Nat) : (⟨bi, gi, bo, go, 2, [97, 98], [121, 122], ⟨#[]⟩, false, false⟩ : LD) = (LD.took ⟨bi, gi, bo, go, 2, [97, 98], [120, 121], ⟨#[122]⟩, false, false⟩ 1).fill := by
  have e1 : LD.took ⟨bi, gi, bo, go, 2, [97, 98], [120, 121], ⟨#[122]⟩, false, false⟩ 1 = ⟨bi, gi, bo, go, 2, [97, 98], [121], ⟨#[122]⟩, false, false⟩ := by
    unfold LD.took
    have h1 : LD.rest ⟨bi, gi, bo, go, 2, [97, 98], [120, 121], ⟨#[122]⟩, false, false⟩ 1 = 0 := rfl
    rw [h1]
    have h2 : (⟨#[122]⟩ : ByteArray).extract 0 (⟨#[122]⟩ : ByteArray).size = ⟨#[122]⟩ := by decide
    show (⟨bi, gi, bo, go, 2, [97, 98], [121], (⟨#[122]⟩ : ByteArray).extract 0 (⟨#[122]⟩ : ByteArray).size, false, false⟩ : LD) = _
    rw [h2]
  rw [e1]
  unfold LD.fill
  have h2 : (⟨#[122]⟩ : ByteArray).extract 1 (⟨#[122]⟩ : ByteArray).size = ⟨#[]⟩ := by decide
  show _ = (⟨bi, gi, bo, go, 2, [97, 98], [121, 122], (⟨#[122]⟩ : ByteArray).extract 1 (⟨#[122]⟩ : ByteArray).size, false, false⟩ : LD)
  rw [h2]
theorem lives_x : (⟨#[120]⟩ : ByteArray).data.toList = ([120, 121] ++ (⟨#[122]⟩ : ByteArray).data.toList).take (1 : Int).toNat := rfl
end Go.Proofs.Ytekbmefdaepgcaa
