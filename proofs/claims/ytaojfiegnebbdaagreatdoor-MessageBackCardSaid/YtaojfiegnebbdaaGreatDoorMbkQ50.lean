/- Texts packed for one claim, 50 of 52: MpP. -/
import Derived.Test.YtaojfiegnebbdaaGreatDoorMbkQ36
import Derived.Test.YtaojfiegnebbdaaGreatDoorMbkQ48
import Derived.Test.YtaojfiegnebbdaaGreatDoorMbkQ47
import Derived.Test.YtaojfiegnebbdaaGreatDoorMbkQ49
set_option maxRecDepth 100000
set_option maxHeartbeats 16000000
set_option linter.unusedSimpArgs false
set_option linter.unusedVariables false
-- MpP
namespace Go.Proofs.YtaojfiegnebbdaaGreatDoor
open Go.RowKit
def msgRes (m t : ByteArray) (k n : Int) (r : ByteArray) (fs : List Fd) (fk fl : Int) (s : ByteArray) (z : List Int) (tr : List Fd) : ByteArray × Int :=
 if rightP m t k n r fs = false then (⟨#[]⟩, 3)
 else if (bodyRes fk fl z s tr).2 ≠ 0 then (⟨#[]⟩, (bodyRes fk fl z s tr).2)
 else (printB m t k n r fs ++ (bodyRes fk fl z s tr).1, 0)
theorem lastA_sz (l : List Fd) (hs : ∀ g ∈ l, g.1.size ≤ 1000 ∧ g.2.size ≤ 1000) : ∀ k, k ≤ l.length → (lastA (l.take k)).size ≤ 100 + 2010 * k
 | 0, _ => by rw [List.take_zero]; decide
 | k + 1, h => by
   have h1 := lastA_sz l hs k (by omega)
   rw [List.take_succ_eq_append_getElem (by omega), lastA_snoc, ByteArray.size_append]
   have h2 := frow_size (l[k]'(by omega))
   have h3 := hs (l[k]'(by omega)) (List.getElem_mem _)
   omega
theorem bodyRes_size {k n : Int} {z : List Int} {s : ByteArray} {l : List Fd} (hz : z.length ≤ 1000) (hs : s.size ≤ 1000000) (hl : l.length ≤ 1000) (hg : ∀ g ∈ l, g.1.size ≤ 1000 ∧ g.2.size ≤ 1000) : (bodyRes k n z s l).1.size ≤ 2000000000 := by
 unfold bodyRes
 split
 ·decide
 split
 ·split
  ·exact nT hs (by decide)
  ·decide
 split
 ·decide
 split
 ·decide
 ·show (chunksL (cutP s z z.length) ++ lastB l).size ≤ _
  have h1 := chunksL_size (cutP s z z.length) (fun q hq => by
   obtain ⟨u, _, rfl⟩ := List.mem_map.1 hq
   simp
   omega)
  rw [cutP_length] at h1
  have h2 := lastA_sz l hg l.length (nR _)
  rw [List.take_length] at h2
  unfold lastB
  rw [ByteArray.size_append, ByteArray.size_append]
  have h3 : crlf.size = 2 := rfl
  have h4 : 1000100 * z.length ≤ 1000100 * 1000 := Nat.mul_le_mul_left _ hz
  omega
theorem printB_size {m t r : ByteArray} {k n : Int} {l : List Fd} (hl : l.length ≤ 1000) (hg : ∀ g ∈ l, g.1.size ≤ 1000 ∧ g.2.size ≤ 1000) (hm : m.size ≤ 1000) (ht : t.size ≤ 1000) (hr : r.size ≤ 1000) (hn : -9223372036854775808 ≤ n) (hn' : n ≤ 9223372036854775807) : (printB m t k n r l).size ≤ 2100000 := by
 unfold printB
 have h3 : crlf.size = 2 := rfl
 have h4 := lineB_size m t r k n hm ht hr hn hn'
 have h1 := printA_size (lineB m t k n r ++ crlf) l hg (by rw [ByteArray.size_append]; omega) l.length (nR _)
 rw [List.take_length] at h1
 rw [ByteArray.size_append]
 omega
def shortM (m t r s : ByteArray) (fs : List Fd) (lz : Nat) (tr : List Fd) : Bool := shortP m t r fs && (fewF tr && (decide (lz ≤ 100) && decide (s.size ≤ 1000)))
theorem shortM_ok {m t r s : ByteArray} {fs : List Fd} {lz : Nat} {tr : List Fd} (h : shortM m t r s fs lz tr = true) : shortP m t r fs = true ∧ fewF tr = true ∧ lz ≤ 100 ∧ s.size ≤ 1000 := by
 unfold shortM at h
 simp only [Bool.and_eq_true, decide_eq_true_eq] at h
 exact h
theorem MsgArg.below {W W' : World} {m t r s : ByteArray} {k n fk fl : Int} {Af Az At : Option Addr} {lf lz lt : Nat} {fs : List Fd} {z : List Int} {tr : List Fd} (h : MsgArg W m t r s k n fk fl Af Az At lf lz lt fs z tr) (hb : Below W.heap.size W W') : MsgArg W' m t r s k n fk fl Af Az At lf lz lt fs z tr :=
 ⟨h.hn, h.hfl, h.hs, h.hlf, h.hlz, h.hlt, h.f.below hb, h.z.below hb, h.t.below hb⟩
section
variable {W : World} {m t r s : ByteArray} {k n fk fl : Int} {Af Az At : Option Addr} {lf lz lt cf cz ct : Nat} {fs : List Fd} {z : List Int} {tr : List Fd}
theorem mshort_any (h : MsgArg W m t r s k n fk fl Af Az At lf lz lt fs z tr) :
 Calls Tryz.prog 17 #[.agg #[.string m, .string t, .int .i64 k, .int .i64 n, .string r, .slice Af lf cf, .int .i64 fk, .int .i64 fl, .string s, .slice Az lz cz, .slice At lt ct]] W fun e w' => e = .returned (.bool (shortM m t r s fs lz tr)) ∧ Below W.heap.size W w' := by
 have HA := lH ((Below.refl W.heap.size W).alloc (nR _) (.cells #[.string m, .string t, .int .i64 k, .int .i64 n, .string r, .slice Af lf cf, .int .i64 fk, .int .i64 fl, .string s, .slice Az lz cz, .slice At lt ct] 46))
 have KC := lH (Blk.new W #[.string m, .string t, .int .i64 k, .int .i64 n, .string r, .slice Af lf cf, .int .i64 fk, .int .i64 fl, .string s, .slice Az lz cz, .slice At lt ct] 46)
 have HS := lH (fun (V : World) (hV : Below W.heap.size W V) => short_any (cap := cf) m t r k n (h.f.below hV) h.hlf)
 have HF := lH (fun (V : World) (hV : Below W.heap.size W V) => few_any (cap := ct) (h.t.below hV) h.hlt)
 unfold shortM
 generalize shortP m t r fs = b1 at HS ⊢
 generalize fewF tr = b2 at HF ⊢
 clear h
 cases b1 <;> cases b2 <;> by_cases h3 : lz ≤ 100 <;> by_cases h4 : s.size ≤ 1000
 all_goals
  first | (have d3 : decide ((lz : Int) ≤ 100) = true := dT (by omega)) | (have d3 : decide ((lz : Int) ≤ 100) = false := dF (by omega))
  first | (have d4 : decide ((s.size : Int) ≤ 1000) = true := dT (by omega)) | (have d4 : decide ((s.size : Int) ≤ 1000) = false := dF (by omega))
  first | (have d3' : decide (lz ≤ 100) = true := dT h3) | (have d3' : decide (lz ≤ 100) = false := dF h3)
  first | (have d4' : decide (s.size ≤ 1000) = true := dT h4) | (have d4' : decide (s.size ≤ 1000) = false := dF h4)
  go_enter Tryz.func17, Tryz.ntmps17
  go_wp2_with (first
   | (go_at_call 37; refine (HS.out _ HA.out).mono ?_; rintro e1 w1 ⟨rfl, hb1⟩; have B1 := lH (HA.out.trans (hb1.mono HA.out.size)); have K1 := lH (KC.out.call hb1); clear hb1; obtain ⟨x8, x9, x10⟩ := bc3 K1.out 8 9 10; simp at x8 x9 x10)
   | (go_at_call 38; refine (HF.out _ B1.out).mono ?_; rintro e2 w2 ⟨rfl, hb2⟩; replace B1 := lH (B1.out.trans (hb2.mono B1.out.size)); replace K1 := lH (K1.out.call hb2); clear hb2 x8 x9 x10; obtain ⟨x8, x9⟩ := bc2 K1.out 8 9; simp at x8 x9))
  go_ret
  exact ⟨by simp [d3', d4'], B1.out⟩
theorem mprint_any (h : MsgArg W m t r s k n fk fl Af Az At lf lz lt fs z tr) (h1 : shortP m t r fs = true) (h2 : fewF tr = true) (h3 : lz ≤ 100) (h4 : s.size ≤ 1000) :
 Calls Tryz.prog 19 #[.agg #[.string m, .string t, .int .i64 k, .int .i64 n, .string r, .slice Af lf cf, .int .i64 fk, .int .i64 fl, .string s, .slice Az lz cz, .slice At lt ct]] W fun e w' => e = .returned (.tuple #[.string (msgRes m t k n r fs fk fl s z tr).1, .int .i64 (msgRes m t k n r fs fk fl s z tr).2]) ∧ Below W.heap.size W w' := by
 obtain ⟨s1, s2, s3, s4, s5⟩ := shortP_ok h1
 obtain ⟨s6, s7⟩ := few_spec h2
 have hlf := h.f.1
 have hlt := h.t.1
 have HA := lH ((Below.refl W.heap.size W).alloc (nR _) (.cells #[.string m, .string t, .int .i64 k, .int .i64 n, .string r, .slice Af lf cf, .int .i64 fk, .int .i64 fl, .string s, .slice Az lz cz, .slice At lt ct] 46))
 have KC := lH (Blk.new W #[.string m, .string t, .int .i64 k, .int .i64 n, .string r, .slice Af lf cf, .int .i64 fk, .int .i64 fl, .string s, .slice Az lz cz, .slice At lt ct] 46)
 have HR : Hid (∀ (V : World), Below W.heap.size W V → Calls Tryz.prog 39 #[.agg #[.string m, .string t, .int .i64 k, .int .i64 n, .string r, .slice Af lf cf]] V fun e w' => e = .returned (.bool (rightP m t k n r fs)) ∧ Below V.heap.size V w') := fun V hV => hright_any m t r k n _ fs (by omega) (by omega) (by omega) V (flds_of (h.f.below hV)) (by omega) (fun g hg => by have := s2 g hg; omega)
 have HP : Hid (∀ (V : World), Below W.heap.size W V → Calls Tryz.prog 41 #[.agg #[.string m, .string t, .int .i64 k, .int .i64 n, .string r, .slice Af lf cf]] V fun e w' => e = .returned (.string (printB m t k n r fs)) ∧ Below V.heap.size V w') := fun V hV => hprint_any m t r k n (h.f.below hV) (by omega) s2 s3 s4 s5 h.hn.1 h.hn.2
 obtain ⟨⟨R, E⟩, hRE⟩ : ∃ q, bodyRes fk fl z s tr = q := ⟨_, rfl⟩
 have HB : Hid (∀ (V : World), Below W.heap.size W V → Calls Tryz.prog 40 #[.agg #[.int .i64 fk, .int .i64 fl], .slice Az lz cz, .string s, .slice At lt ct] V fun e w' => e = .returned (.tuple #[.string R, .int .i64 E]) ∧ Below V.heap.size V w') := fun V hV => body_any (h.z.below hV) (h.t.below hV) (by omega) (by omega) (by omega) s7 hRE
 have hcf : ∀ xs W, (callFunc 40 xs).run Tryz.prog W = .ok (.enter 40 xs) W := fun _ _ => by kernel_rfl
 have hRs : R.size ≤ 2000000000 := by
  have := bodyRes_size (k := fk) (n := fl) (z := z) (s := s) (l := tr) (by have := h.z.1; omega) (by omega) (by omega) s7
  rw [hRE] at this
  exact this
 have hPs := printB_size (k := k) (l := fs) (by omega) s2 s3 s4 s5 h.hn.1 h.hn.2
 have hM : msgRes m t k n r fs fk fl s z tr = if rightP m t k n r fs = false then (⟨#[]⟩, 3) else if E ≠ 0 then (⟨#[]⟩, E) else (printB m t k n r fs ++ R, 0) := by unfold msgRes; rw [hRE]
 generalize rightP m t k n r fs = Q at HR hM
 generalize printB m t k n r fs = P at HP hM hPs
 generalize msgRes m t k n r fs fk fl s z tr = X at hM ⊢
 clear h h1 h2 h3 h4 s1 s2 s3 s4 s5 s6 s7 hlf hlt hRE
 cases Q
 ·rw [if_pos rfl] at hM
  subst hM
  go_enter Tryz.func19, Tryz.ntmps19
  go_wp2_with (go_at_call 39; refine (HR.out _ HA.out).mono ?_; rintro e1 w1 ⟨rfl, hb1⟩; have B1 := lH (HA.out.trans (hb1.mono HA.out.size)); clear hb1)
  go_ret2
  exact ⟨rfl, B1.out⟩
 ·rw [if_neg (show ¬ (true = false) by decide)] at hM
  have hX : (E = 0 ∧ (E != 0) = false ∧ X = (P ++ R, 0)) ∨ ((E != 0) = true ∧ (E == 0) = false ∧ decide (E = 0) = false ∧ X = (⟨#[]⟩, E)) := by
   by_cases hE : E = 0
   ·rw [if_neg (fun h => h hE)] at hM
    exact Or.inl ⟨hE, by rw [hE]; rfl, hM⟩
   ·rw [if_pos hE] at hM
    exact Or.inr ⟨by rw [bne_iff_ne]; exact hE, by rw [beq_eq_false_iff_ne]; exact hE, dF hE, hM⟩
  clear hM
  rcases hX with ⟨rfl, e0, rfl⟩ | ⟨e0, e0', e0'', rfl⟩
  all_goals go_enter Tryz.func19, Tryz.ntmps19
  all_goals go_wp2_with (first
   | (go_at_call 39; refine (HR.out _ HA.out).mono ?_; rintro e1 w1 ⟨rfl, hb1⟩; have B1 := lH (HA.out.trans (hb1.mono HA.out.size)); have K1 := lH (KC.out.call hb1); clear hb1; obtain ⟨x6, x7, x8, x9, x10⟩ := bc5 K1.out 6 7 8 9 10; simp at x6 x7 x8 x9 x10)
   | (go_at_call 40; refine (HB.out _ B1.out).mono ?_; rintro e2 w2 ⟨rfl, hb2⟩; have B2 := lH (B1.out.trans (hb2.mono B1.out.size)); have K2 := lH (K1.out.call hb2); clear hb2 x6 x7 x8 x9 x10; obtain ⟨x0, x1, x2, x3, x4, x5⟩ := bc6 K2.out 0 1 2 3 4 5; simp at x0 x1 x2 x3 x4 x5)
   | (go_at_call 41; refine (HP.out _ B2.out).mono ?_; rintro e3 w3 ⟨rfl, hb3⟩; have B3 := lH (B2.out.trans (hb3.mono B2.out.size)); clear hb3))
  ·go_ret2
   exact ⟨rfl, B3.out⟩
  ·go_ret2
   exact ⟨rfl, B2.out⟩
end
end Go.Proofs.YtaojfiegnebbdaaGreatDoor