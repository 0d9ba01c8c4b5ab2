/- Unfold's closure: it joins a line to the last one. -/
import Derived.Test.YtmoofcmmpemdcaaGreatDoorUnfoldP
import Derived.Test.YtmoofcmmpemdcaaGreatDoorCl
set_option linter.unusedSimpArgs false
set_option linter.unusedVariables false
namespace Go.Proofs.YtmoofcmmpemdcaaGreatDoor
open Go.RowKit
set_option maxRecDepth 100000 in
set_option maxHeartbeats 2000000 in
theorem join_any (line x : ByteArray) (b m : Nat) (l : List ByteArray) (v : Value) (w : World) (hk : Blk w b #[v] 37) (hv : OwnS w (b + 1) v l) (h0 : l.length = m + 1) (hx : l[m]? = some x) (hm : m < 1000000) (hxs : x.size ≤ 1000000) (hls : line.size ≤ 1000000) :
    Calls Tryz.prog 245 #[.string line, .pointer (some ⟨b, 0, none⟩)] w fun e w' => e = .returned (.tuple #[]) ∧ Blk w' b #[v] 37 ∧ OwnS w' (b + 1) v (l.set m (joinB x line)) ∧ Below b w w' := by
  obtain ⟨g, cap, cur, rfl, hgb, hg, hcl, htk⟩ := hv.block (by omega)
  have hne : g ≠ b := by omega
  have hG : Blk w g cur 9 := hg
  have hcm : cur[m]? = some (.string x) := by
    have a : (l.map Value.string)[m]? = some (.string x) := by rw [List.getElem?_map, hx]; rfl
    rw [← htk, List.getElem?_take, if_pos (by omega)] at a
    simpa using a
  obtain ⟨E, hE⟩ : ∃ E, E = endB x := ⟨_, rfl⟩
  have hEs : E.size ≤ x.size := by rw [hE]; exact endB_size x
  obtain ⟨T, hT⟩ : ∃ T, T = trimB line := ⟨_, rfl⟩
  have hTs : T.size ≤ line.size := by rw [hT]; exact trimB_size line
  have hls1 : (⟨#[32]⟩ : ByteArray).size = 1 := rfl
  obtain ⟨A, hA⟩ : ∃ A, A = E ++ ⟨#[32]⟩ := ⟨_, rfl⟩
  have hAs : A.size = E.size + 1 := by rw [hA, ByteArray.size_append]; rfl
  obtain ⟨J, hJ⟩ : ∃ J, J = A ++ T := ⟨_, rfl⟩
  have hJe : joinB x line = J := by rw [hJ, hA, hE, hT]; rfl
  have hadd1 : ∀ W : World, (Op.stringOp .add E ⟨#[32]⟩).run Tryz.prog W = .ok (.string A) W := fun W => (run_string_add_sum (P := Tryz.prog) (w := W) E ⟨#[32]⟩ (by omega)).trans (by rw [← hA])
  have hadd2 : ∀ W : World, (Op.stringOp .add A T).run Tryz.prog W = .ok (.string J) W := fun W => (run_string_add_sum (P := Tryz.prog) (w := W) A T (by omega)).trans (by rw [← hJ])
  have H1 : Hid (∀ W : World, Calls Tryz.prog 246 #[.string x, .string ⟨#[32, 9]⟩] W fun e w' => e = .returned (.string E) ∧ Below W.heap.size W w') := fun W => by rw [hE]; exact trimr_any x (by omega) W
  have H2 : Hid (∀ W : World, Calls Tryz.prog 116 #[.string line] W fun e w' => e = .returned (.string T) ∧ W = w') := fun W => by rw [hT]; exact trim_any line (by omega) W
  obtain ⟨I, hIe⟩ : ∃ I : World → Prop, I = fun x => Below w.heap.size w x := ⟨_, rfl⟩
  have HIO := Lib.hid (show ∀ x, I x → Below w.heap.size w x by rw [hIe]; exact fun _ h => h)
  have HIM : Hid (∀ x x', I x → Below x.heap.size x x' → I x') := by
    show ∀ x x', I x → Below x.heap.size x x' → I x'
    rw [hIe]
    exact fun x x' h hb => h.trans (hb.mono h.size)
  have hI0 : I w.drew := by rw [hIe]; exact (Below.refl _ _).drew
  have NI : Nonempty (Cl I) := ⟨⟨_, hI0⟩⟩
  have HI0 := Lib.hid hI0
  have c0 : w.cell? ⟨b, 0, none⟩ = some (.slice (some ⟨g, 0, none⟩) l.length cap) := hk.cell 0
  rw [h0] at c0
  have q0 : ∀ s : Cl I, s.val.cell? ⟨b, 0, none⟩ = some (.slice (some ⟨g, 0, none⟩) (m + 1) cap) := fun s => by have := (hk.call (HIO.out _ s.ok)).cell 0; rw [h0] at this; exact this
  have q1 : ∀ s : Cl I, s.val.cell? ⟨g, m, none⟩ = some (.string x) := fun s => ((hG.call (HIO.out _ s.ok)).cell m).trans hcm
  have q2 : ∀ s : Cl I, s.val.frozen? ⟨g, m, none⟩ = false := fun s => (hG.call (HIO.out _ s.ok)).froz m
  have HK := Lib.hid hk
  have HV := Lib.hid hv
  have HE := Lib.hid hJe
  have H0 := Lib.hid h0
  have HN := Lib.hid hne
  have HGB := Lib.hid hgb
  clear hk hv hgb hg hG hcl htk hcm hE hEs hT hTs hA hAs hJ hJe hIe hI0 hx hxs hls hls1 hne h0
  go_enter Tryz.func245, Tryz.ntmps245
  go_wp2_with fail
  refine wp_region_cl_tail 12 HI0.out (by kernel_rfl) (by kernel_rfl) ?_
  simp only [List.take_succ_cons, List.take_zero, List.drop_succ_cons, List.drop_zero]
  repeat go_big_quiet_step ((first
    | (go_at_call 246; exact Calls.cl_of ((H1.out _).mono fun _ _ ⟨a, b⟩ => ⟨a, HIM.out _ _ (Cl.ok _) b⟩))
    | (go_at_call 116; exact Calls.cl_same (H2.out _))))
  refine wpQuiet_nil ?_
  rintro _ ⟨s, rfl⟩
  go_wp2_with fail
  go_end0
  have hb := HIO.out _ s.ok
  have hv1 := HV.out.call hb
  have hk1 := HK.out.call hb
  refine ⟨rfl, hk1.far HN.out.symm _, ?_, (hb.mono (Nat.le_of_lt HK.out.lt)).setCell (by show b ≤ g; have := HGB.out; omega) _⟩
  rw [HE.out]
  have := hv1.set m (by have := H0.out; omega) J
  rw [List.length_set] at this
  exact this
end Go.Proofs.YtmoofcmmpemdcaaGreatDoor
