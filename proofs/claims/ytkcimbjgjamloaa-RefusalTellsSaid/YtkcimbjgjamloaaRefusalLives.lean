/- RefusalTells: the walk. -/
import Derived.Test.YtkcimbjgjamloaaRHead2
import Derived.Test.YtkcimbjgjamloaaRefStat
import Derived.Test.YtkcimbjgjamloaaDates
import Derived.Test.YtkcimbjgjamloaaHSame
import Derived.Test.YtkcimbjgjamloaaHeld
namespace Go.Proofs.Ytkcimbjgjamloaa
open Go.RowKit Civ
theorem head_any (st minor now : Int) (h1 : -9223372036854775808 ≤ minor) (h2 : minor ≤ 9223372036854775807) {T : ByteArray} (hP : Prints now T) (w : World) :
    Calls Try.prog 9 #[.int .i64 st, .int .i64 minor, .int .i64 now] w fun e w' => ∃ f, e = .returned (.agg #[.string ⟨#[]⟩, .string ⟨#[]⟩, .int .i64 (verN minor), .int .i64 st, .string (reasonS st), f]) ∧ Flds w' f (hdL T) ∧ Below w.heap.size w w' := by
  cases hT : T.toList.isEmpty
  · exact head_some st minor now T h1 h2 hT hP.1 w
  · exact head_none st minor now T h1 h2 hT hP.1 w
theorem rhead_any (st minor now : Int) {T : ByteArray} (hP : Prints now T) (w : World) :
    Calls Try.prog 10 #[.int .i64 st, .int .i64 minor, .int .i64 now] w fun e w' => ∃ f, e = .returned (.agg #[.string ⟨#[]⟩, .string ⟨#[]⟩, .int .i64 (verN minor), .int .i64 st, .string (reasonS st), f]) ∧ Flds w' f (hdL T) ∧ Below w.heap.size w w' := by
  by_cases hm : 0 < minor <;> cases hT : T.toList.isEmpty
  · exact rhead_s1 st minor now T hm hT hP.2 w
  · exact rhead_e1 st minor now T hm hT hP.2 w
  · exact rhead_s0 st minor now T (by omega) hT hP.2 w
  · exact rhead_e0 st minor now T (by omega) hT hP.2 w
theorem hdL_len (T : ByteArray) : (hdL T).length ≤ 3 := by unfold hdL; split <;> simp
theorem isDate0 : IsDate 0 1970 1 1 := ⟨by decide, by decide, by decide, by decide, by decide, by decide, by decide⟩
theorem bad_req : reasonS 400 = ⟨#[66, 97, 100, 32, 82, 101, 113, 117, 101, 115, 116]⟩ := by decide +kernel
set_option maxRecDepth 100000 in
theorem lives33 (w : World) : Calls Try.prog 13 #[] w fun e w' => e = .returned (.bool true) ∧ Below w.heap.size w w' := by
  have hp : Prints 0 (dateB (weekD 0).toNat (1 - 1 : Int).toNat 1970 1 0) := prints_at isDate0 (by decide) (by decide) (by decide)
  obtain ⟨T, hT⟩ : ∃ T, T = dateB (weekD 0).toNat (1 - 1 : Int).toNat 1970 1 0 := ⟨_, rfl⟩
  have hTe : T.toList.isEmpty = false := by rw [hT]; exact dateB_some _ _ _ _ _
  rw [← hT] at hp
  have hl : (hdL T).length = 3 := by unfold hdL; rw [hTe]; rfl
  have HH : Hid (∀ W, Calls Try.prog 9 #[.int .i64 400, .int .i64 1, .int .i64 0] W fun e w' => ∃ p c, e = .returned (.agg #[.string ⟨#[]⟩, .string ⟨#[]⟩, .int .i64 1, .int .i64 400, .string ⟨#[66, 97, 100, 32, 82, 101, 113, 117, 101, 115, 116]⟩, .slice p 3 c]) ∧ Below W.heap.size W w') := fun W => (head_any 400 1 0 (by decide) (by decide) hp W).mono fun e w' ⟨f, he, hf, hb⟩ => by
    obtain ⟨p, c, hfe, _⟩ := hf
    rw [hl] at hfe
    subst hfe
    exact ⟨p, c, by rw [he, bad_req]; rfl, hb⟩
  have HA := Lib.hid (fun W => status_any 1 4 W)
  have HO := Lib.hid (fun W => status_any 2 19 W)
  have ea : statB 1 4 = 431 := by decide
  have eo : statB 2 19 = 502 := by decide
  rw [ea] at HA
  rw [eo] at HO
  clear hp hT hTe hl ea eo
  go_enter Try.func13, Try.ntmps13
  go_wp2_with (go_at_call 9; refine (HH.out _).mono ?_)
  rintro e w1 ⟨p, c, rfl, hb⟩
  have B1 := Lib.hid hb
  clear hb
  go_wp2_with (go_at_call 6; refine (HA.out _).mono ?_)
  rintro e2 w2 ⟨rfl, hb⟩
  have B2 := Lib.hid hb
  clear hb
  go_wp2_with fail
  refine (HO.out _).mono ?_
  rintro e3 w3 ⟨rfl, hb⟩
  have K3 := Lib.hid (((Blk.new w1 _ _).call B2.out).call hb)
  have B3 := Lib.hid (((B1.out.alloc B1.out.size _).trans (B2.out.mono (by have := B1.out.size; simp; omega))).trans (hb.mono (by have h1 := B1.out.size; have h2 := B2.out.size; simp at h2; omega)))
  clear hb
  have c4 := K3.out.cell 4
  have c5 := K3.out.cell 5
  simp at c4 c5
  go_wp2_with fail
  go_ret
  exact ⟨rfl, B3.out⟩
end Go.Proofs.Ytkcimbjgjamloaa
