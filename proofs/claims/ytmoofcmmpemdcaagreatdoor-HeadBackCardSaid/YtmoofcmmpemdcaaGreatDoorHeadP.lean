/- Package head: what Parse answers, in plain words; first. -/
import Derived.Test.YtmoofcmmpemdcaaGreatDoorFieldAllW
import Derived.Test.YtmoofcmmpemdcaaGreatDoorFieldAllR
import Derived.Test.YtmoofcmmpemdcaaGreatDoorStartLaw
set_option linter.unusedSimpArgs false
set_option linter.unusedVariables false
namespace Go.Proofs.YtmoofcmmpemdcaaGreatDoor
open Go.RowKit
/-- A head. -/
structure Hd where
  m : ByteArray
  t : ByteArray
  k : Int
  n : Int
  r : ByteArray
  fs : List Fd
def hd0 : Hd := ⟨⟨#[]⟩, ⟨#[]⟩, 0, 0, ⟨#[]⟩, []⟩
/-- A head's six values, its fields' slice at hand. -/
def Hd.row (h : Hd) (f : Value) : Array Value := #[.string h.m, .string h.t, .int .i64 h.k, .int .i64 h.n, .string h.r, f]
def nilS : Value := .slice none 0 0
/-- What a first line is. -/
def firstP (kind : Int) (s : ByteArray) : Hd × Int :=
  if kind = 1 then (⟨(reqRes s).1.1, (reqRes s).1.2.1, (reqRes s).1.2.2, 0, ⟨#[]⟩, []⟩, (reqRes s).2) else (⟨⟨#[]⟩, ⟨#[]⟩, (statRes s).1.1, (statRes s).1.2.1, (statRes s).1.2.2, []⟩, (statRes s).2)
theorem firstP_fs (kind : Int) (s : ByteArray) : (firstP kind s).1.fs = [] := by unfold firstP; split <;> rfl
/-- What Parse answers. -/
def headP (kind fields fold : Int) (l : List ByteArray) : Hd × Int :=
  if kind ≠ 1 ∧ kind ≠ 2 then (hd0, 1) else match l with
  | [] => (hd0, 2)
  | s :: rest => if (firstP kind s).2 ≠ 0 then (hd0, (firstP kind s).2) else if fields < (rest.length : Int) then (hd0, 4)
    else if (allF fold rest).2 ≠ 0 then (hd0, (allF fold rest).2) else ({ (firstP kind s).1 with fs := (allF fold rest).1 }, 0)
/-- A slice that is none longer than it may be. -/
def CapOk : Value → Prop
  | .slice _ n c => n ≤ c
  | _ => True
theorem Strs.tail {w : World} {b off m c : Nat} {s : ByteArray} {rest : List ByteArray} (h : Strs w (.slice (some ⟨b, off, none⟩) (m + 1) c) (s :: rest)) : m = rest.length ∧ w.cell? ⟨b, off, none⟩ = some (.string s) ∧ (∀ c', Strs w (.slice (some ⟨b, off + 1, none⟩) m c') rest) ∧ (m = 0 → ∀ p c', Strs w (.slice p 0 c') rest) := by
  obtain ⟨p, c', hv, hc⟩ := h
  have hm : m = rest.length := by
    injection hv with _ h2 _
    simpa using h2
  injection hv with hp _ _
  refine ⟨hm, ?_, fun c2 => ⟨_, c2, by rw [hm], fun i hi => ?_⟩, fun h0 p c2 => ?_⟩
  · obtain ⟨b', off', hp', h1⟩ := hc 0 (by simp)
    rw [← hp] at hp'
    cases hp'
    exact h1
  · obtain ⟨b', off', hp', h1⟩ := hc (i + 1) (by simpa using hi)
    rw [← hp] at hp'
    cases hp'
    exact ⟨b, off + 1, rfl, by rw [Nat.add_assoc, Nat.add_comm 1 i]; exact h1⟩
  · have : rest = [] := List.eq_nil_of_length_eq_zero (by omega)
    subst this
    exact Strs.nil _ _ _
set_option maxRecDepth 100000 in
theorem first_any (kind : Int) (hk : kind = 1 ∨ kind = 2) (s : ByteArray) (hs : s.size ≤ 100000) {mx : Int} (w : World) (hm : w.cell? ⟨0, 0, none⟩ = some (.int .i64 mx)) :
    Calls Tryz.prog 172 #[.int .i64 kind, .string s] w fun e w' => e = .returned (.tuple #[.agg ((firstP kind s).1.row nilS), .int .i64 (firstP kind s).2]) ∧ Below w.heap.size w w' := by
  have HM : Hid ((w.alloc (.cells #[.string ⟨#[]⟩, .string ⟨#[]⟩, .int .i64 0, .int .i64 0, .string ⟨#[]⟩, .slice none 0 0] 24)).cell? ⟨0, 0, none⟩ = some (.int .i64 mx)) := mx_below hm ((Below.refl _ _).alloc (Nat.le_refl _) _)
  rcases hk with rfl | rfl
  · obtain ⟨a, ha⟩ : ∃ a, a = firstP 1 s := ⟨_, rfl⟩
    have HR := Lib.hid (fun (W : World) (hW : W.cell? ⟨0, 0, none⟩ = some (.int .i64 mx)) => request_any s hs (m := a.1.m) (t := a.1.t) (k := a.1.k) (e := a.2) (by rw [ha]; rfl) W hW)
    have HA : Hid ((firstP 1 s).1.row nilS = #[.string a.1.m, .string a.1.t, .int .i64 a.1.k, .int .i64 0, .string ⟨#[]⟩, .slice none 0 0] ∧ (firstP 1 s).2 = a.2) := by
      show _ ∧ _
      rw [ha]
      exact ⟨rfl, rfl⟩
    clear ha hm
    go_enter Tryz.func172, Tryz.ntmps172
    go_wp2_with (go_at_call 211; refine (HR.out _ HM.out).mono ?_; rintro e1 w1 ⟨rfl, hb⟩; have K1 := Lib.hid ((Blk.new w #[.string ⟨#[]⟩, .string ⟨#[]⟩, .int .i64 0, .int .i64 0, .string ⟨#[]⟩, .slice none 0 0] 24).call hb); have B1 := Lib.hid (below_one hb); clear hb; have a0 := K1.out.cell 0; have f0 := K1.out.froz 0; have a1 := K1.out.cell 1; have f1 := K1.out.froz 1; have a2 := K1.out.cell 2; have f2 := K1.out.froz 2; have a3 := K1.out.cell 3; have f3 := K1.out.froz 3; have a4 := K1.out.cell 4; have f4 := K1.out.froz 4; have a5 := K1.out.cell 5; have f5 := K1.out.froz 5; simp at a0 a1 a2 a3 a4 a5)
    rw [HA.out.1, HA.out.2]
    exact bodyPost_ret (results_agg_tmp Tryz.results172 _ _ _ _ rfl (run_loadVar_row _ _ _ _ _ _ _ (blk_set6 K1.out _ _ _ _ _ _) Tryz.underlying24 rfl (by kernel_rfl))) rfl ⟨rfl, below_set6 B1.out (Nat.le_refl _) _ _ _ _ _ _⟩
  · obtain ⟨a, ha⟩ : ∃ a, a = firstP 2 s := ⟨_, rfl⟩
    have HR := Lib.hid (fun (W : World) => status_any s hs (k := a.1.k) (n := a.1.n) (r := a.1.r) (e := a.2) (by rw [ha]; rfl) W)
    have HA : Hid ((firstP 2 s).1.row nilS = #[.string ⟨#[]⟩, .string ⟨#[]⟩, .int .i64 a.1.k, .int .i64 a.1.n, .string a.1.r, .slice none 0 0] ∧ (firstP 2 s).2 = a.2) := by
      show _ ∧ _
      rw [ha]
      exact ⟨rfl, rfl⟩
    clear ha hm
    go_enter Tryz.func172, Tryz.ntmps172
    go_wp2_with (go_at_call 212; refine (HR.out _).mono ?_; rintro e1 w1 ⟨rfl, hb⟩; have K1 := Lib.hid ((Blk.new w #[.string ⟨#[]⟩, .string ⟨#[]⟩, .int .i64 0, .int .i64 0, .string ⟨#[]⟩, .slice none 0 0] 24).call hb); have B1 := Lib.hid (below_one hb); clear hb; have a0 := K1.out.cell 0; have f0 := K1.out.froz 0; have a1 := K1.out.cell 1; have f1 := K1.out.froz 1; have a2 := K1.out.cell 2; have f2 := K1.out.froz 2; have a3 := K1.out.cell 3; have f3 := K1.out.froz 3; have a4 := K1.out.cell 4; have f4 := K1.out.froz 4; have a5 := K1.out.cell 5; have f5 := K1.out.froz 5; simp at a0 a1 a2 a3 a4 a5)
    rw [HA.out.1, HA.out.2]
    exact bodyPost_ret (results_agg_tmp Tryz.results172 _ _ _ _ rfl (run_loadVar_row _ _ _ _ _ _ _ (blk_set6 K1.out _ _ _ _ _ _) Tryz.underlying24 rfl (by kernel_rfl))) rfl ⟨rfl, below_set6 B1.out (Nat.le_refl _) _ _ _ _ _ _⟩
end Go.Proofs.YtmoofcmmpemdcaaGreatDoor
