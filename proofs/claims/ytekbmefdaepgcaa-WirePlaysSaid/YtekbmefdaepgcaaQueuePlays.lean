/- The walk of QueuePlays. -/
import Derived.Test.YtekbmefdaepgcaaQueueLaw
namespace Go.Proofs.Ytekbmefdaepgcaa
open Go.RowKit
theorem Touch.cell {P : Nat → Prop} {w w1 : World} {p : Addr} {v : Value} (h : Touch P w w1) (hp : ¬ P p.block) (hc : w.cell? p = some v) : w1.cell? p = some v := by
  have hlt := World.block_lt_of_cell? _ _ hc
  have := h.block p.block hlt hp
  unfold World.cell? at hc ⊢
  rw [this]
  exact hc
theorem len_at {w : World} {b g most : Nat} {S : List UInt8} (h : Que w b g most S) (n : Nat) (hn : n = S.length) : Calls Try.prog 76 #[.pointer (some ⟨b, 0, none⟩)] w fun e w' => e = .returned (.int .i64 n) ∧ w' = w := by
  rw [hn]; exact (len_any h).mono fun e w' ⟨h1, h2⟩ => ⟨h1, h2.symm⟩
theorem room_at {w : World} {b g most : Nat} {S : List UInt8} (h : Que w b g most S) (n : Nat) (hn : n = S.length) : Calls Try.prog 152 #[.pointer (some ⟨b, 0, none⟩)] w fun e w' => e = .returned (.int .i64 (most - n)) ∧ w' = w := by
  rw [hn]; exact (room_any h).mono fun e w' ⟨h1, h2⟩ => ⟨h1, h2.symm⟩
theorem most_at {w : World} {b g most : Nat} {S : List UInt8} (h : Que w b g most S) : Calls Try.prog 168 #[.pointer (some ⟨b, 0, none⟩)] w fun e w' => e = .returned (.int .i64 most) ∧ w' = w :=
  (most_any h).mono fun e w' ⟨h1, h2⟩ => ⟨h1, h2.symm⟩
theorem Que.drew {w : World} {b g most : Nat} {S : List UInt8} (h : Que w b g most S) : Que w.drew b g most S := h.touch (P := fun _ => False) (Touch.refl _ _).drew id id
theorem Que.drewN {w : World} {b g most : Nat} {S : List UInt8} (h : Que w b g most S) (n : Nat) : Que (w.drewN n) b g most S := h.touch (P := fun _ => False) ((Touch.refl _ _).drewN n) id id
end Go.Proofs.Ytekbmefdaepgcaa
