/- Layer 15: the laws StartRequests, StartStatuses: they answer true, in every world that holds the variable which strings.Split reads. -/
import Derived.Test.YtekbmefdaepgcaaDoorStartLaw
import Derived.Test.YtekbmefdaepgcaaDoorSame
import Derived.Test.YtekbmefdaepgcaaDoorReasonR
namespace Go.Proofs.YtekbmefdaepgcaaDoor
open Go.RowKit
theorem cell_below {w w' : World} {v : Value} (h : w.cell? ⟨0, 0, none⟩ = some v) (hb : Below w.heap.size w w') : w'.cell? ⟨0, 0, none⟩ = some v :=
  (hb.cell (World.block_lt_of_cell? _ _ h)).trans h
theorem cell_alloc {w : World} {v : Value} (h : w.cell? ⟨0, 0, none⟩ = some v) (o : Obj) : (w.alloc o).cell? ⟨0, 0, none⟩ = some v := by
  rw [World.cell?_alloc_old _ _ _ (Nat.ne_of_lt (World.block_lt_of_cell? _ _ h))]; exact h
theorem same_self (m t r : ByteArray) (k n : Int) (f f' : Value) (w : World) :
    Calls Tryd.prog 11 #[.agg #[.string m, .string t, .int .i64 k, .int .i64 n, .string r, f], .agg #[.string m, .string t, .int .i64 k, .int .i64 n, .string r, f']] w fun e w' => e = .returned (.bool true) ∧ Below w.heap.size w w' := by
  have := same_any m t r m t r k n k n f f' (p1 := true) (p2 := true) (p3 := true) (p4 := true) (p5 := true) (by simp) (by simp) (by simp) (by simp) (by simp) w
  exact this
def getS : ByteArray := ⟨#[71, 69, 84, 32, 47, 32, 72, 84, 84, 80, 47, 49, 46, 49]⟩
def okS : ByteArray := ⟨#[72, 84, 84, 80, 47, 49, 46, 48, 32, 50, 48, 48, 32, 79, 75]⟩
theorem get_res : reqRes getS = ((⟨#[71, 69, 84]⟩, ⟨#[47]⟩, 1), 0) := by decide +kernel
theorem ok_res : statRes okS = ((0, 200, ⟨#[79, 75]⟩), 0) := by decide +kernel
theorem bad_res : reasonS 400 = ⟨#[66, 97, 100, 32, 82, 101, 113, 117, 101, 115, 116]⟩ := by decide +kernel
set_option maxHeartbeats 4000000 in
theorem lives15 {mx : Int} (w : World) (hm : w.cell? ⟨0, 0, none⟩ = some (.int .i64 mx)) : Calls Tryd.prog 12 #[] w fun e w' => e = .returned (.bool true) ∧ Below w.heap.size w w' := by
  have HM := Lib.hid hm
  have H1 : Hid (∀ W : World, W.cell? ⟨0, 0, none⟩ = some (.int .i64 mx) → Calls Tryd.prog 7 #[.string ⟨#[71, 69, 84, 32, 47, 32, 72, 84, 84, 80, 47, 49, 46, 49]⟩] W fun o w' => o = .returned (.tuple #[.agg #[.string ⟨#[71, 69, 84]⟩, .string ⟨#[47]⟩, .int .i64 1, .int .i64 0, .string ⟨#[]⟩, .slice none 0 0], .int .i64 0]) ∧ Below W.heap.size W w') :=
    fun W h => request_any getS (by decide) get_res W h
  have H2 : Hid (∀ W : World, Calls Tryd.prog 13 #[.string ⟨#[72, 84, 84, 80, 47, 49, 46, 48, 32, 50, 48, 48, 32, 79, 75]⟩] W fun o w' => o = .returned (.tuple #[.agg #[.string ⟨#[]⟩, .string ⟨#[]⟩, .int .i64 0, .int .i64 200, .string ⟨#[79, 75]⟩, .slice none 0 0], .int .i64 0]) ∧ Below W.heap.size W w') :=
    fun W => status_any okS (by decide) ok_res W
  have H3 : Hid (∀ W : World, Calls Tryd.prog 15 #[.int .i64 400] W fun e w' => e = .returned (.string ⟨#[66, 97, 100, 32, 82, 101, 113, 117, 101, 115, 116]⟩) ∧ W = w') := fun W => by
    have := reason_any 400 W
    rw [bad_res] at this
    exact this
  clear hm
  go_enter Tryd.func12, Tryd.ntmps12
  go_wp2_with fail
  refine (H1.out _ HM.out).mono ?_
  rintro e' w1 ⟨rfl, hb⟩
  have B1 := Lib.hid hb
  have K1 : Hid (Blk (w1.alloc (.cells #[.string ⟨#[71, 69, 84]⟩, .string ⟨#[47]⟩, .int .i64 1, .int .i64 0, .string ⟨#[]⟩, .slice none 0 0] 24)) w1.heap.size #[.string ⟨#[71, 69, 84]⟩, .string ⟨#[47]⟩, .int .i64 1, .int .i64 0, .string ⟨#[]⟩, .slice none 0 0] 24) := Blk.new _ _ _
  have B2 : Hid (Below w.heap.size w (w1.alloc (.cells #[.string ⟨#[71, 69, 84]⟩, .string ⟨#[47]⟩, .int .i64 1, .int .i64 0, .string ⟨#[]⟩, .slice none 0 0] 24))) := B1.out.alloc B1.out.size _
  clear hb
  go_wp2_with fail
  refine (H2.out _).mono ?_
  rintro e' w2 ⟨rfl, hb⟩
  have K2 := Lib.hid (K1.out.call hb)
  have B3 := Lib.hid (B2.out.trans (hb.mono B2.out.size))
  clear hb K1 B2
  obtain ⟨a, ha⟩ : ∃ a, a = w1.heap.size := ⟨_, rfl⟩
  rw [← ha] at K2
  rw [← ha]
  clear ha
  have J1 : Hid (∀ o, Blk (w2.alloc o) a #[.string ⟨#[71, 69, 84]⟩, .string ⟨#[47]⟩, .int .i64 1, .int .i64 0, .string ⟨#[]⟩, .slice none 0 0] 24) := fun o => K2.out.alloc o
  have c0 : ∀ o, (w2.alloc o).cell? ⟨a, 0, none⟩ = some (.string ⟨#[71, 69, 84]⟩) := fun o => (J1.out o).cell 0
  have c1 : ∀ o, (w2.alloc o).cell? ⟨a, 1, none⟩ = some (.string ⟨#[47]⟩) := fun o => (J1.out o).cell 1
  have c2 : ∀ o, (w2.alloc o).cell? ⟨a, 2, none⟩ = some (.int .i64 1) := fun o => (J1.out o).cell 2
  have c3 : ∀ o, (w2.alloc o).cell? ⟨a, 3, none⟩ = some (.int .i64 0) := fun o => (J1.out o).cell 3
  have c4 : ∀ o, (w2.alloc o).cell? ⟨a, 4, none⟩ = some (.string ⟨#[]⟩) := fun o => (J1.out o).cell 4
  have c5 : ∀ o, (w2.alloc o).cell? ⟨a, 5, none⟩ = some (.slice none 0 0) := fun o => (J1.out o).cell 5
  go_wp2_with fail
  refine (same_self _ _ _ _ _ _ _ _).mono ?_
  rintro e' w3 ⟨rfl, hb⟩
  have K3 : Hid (Blk w3 w2.heap.size #[.string ⟨#[]⟩, .string ⟨#[]⟩, .int .i64 0, .int .i64 200, .string ⟨#[79, 75]⟩, .slice none 0 0] 24) := (Blk.new _ _ _).call hb
  have B4 := Lib.hid ((B3.out.alloc B3.out.size _).trans (hb.mono (by have := B3.out.size; simp; omega)))
  clear hb c0 c1 c2 c3 c4 c5 J1 K2
  obtain ⟨b, hb⟩ : ∃ b, b = w2.heap.size := ⟨_, rfl⟩
  rw [← hb] at K3
  rw [← hb]
  clear hb
  have d0 : w3.cell? ⟨b, 0, none⟩ = some (.string ⟨#[]⟩) := K3.out.cell 0
  have d1 : w3.cell? ⟨b, 1, none⟩ = some (.string ⟨#[]⟩) := K3.out.cell 1
  have d2 : w3.cell? ⟨b, 2, none⟩ = some (.int .i64 0) := K3.out.cell 2
  have d3 : w3.cell? ⟨b, 3, none⟩ = some (.int .i64 200) := K3.out.cell 3
  have d4 : w3.cell? ⟨b, 4, none⟩ = some (.string ⟨#[79, 75]⟩) := K3.out.cell 4
  have d5 : w3.cell? ⟨b, 5, none⟩ = some (.slice none 0 0) := K3.out.cell 5
  go_wp2_with fail
  refine (same_self _ _ _ _ _ _ _ _).mono ?_
  rintro e' w4 ⟨rfl, hb⟩
  have B5 := Lib.hid (B4.out.trans (hb.mono B4.out.size))
  clear hb
  go_wp2_with fail
  refine (H3.out _).mono ?_
  rintro e' w5 ⟨rfl, rfl⟩
  go_wp2_with fail
  go_ret
  exact ⟨rfl, B5.out⟩
end Go.Proofs.YtekbmefdaepgcaaDoor
