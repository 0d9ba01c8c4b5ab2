/- A head comes back from its text: the plain law, the walk; what both need. -/
import Derived.Test.YtmoofcmmpemdcaaGreatDoorHdB
import Derived.Test.YtmoofcmmpemdcaaGreatDoorHdF
import Derived.Test.YtmoofcmmpemdcaaGreatDoorHdD
set_option linter.unusedSimpArgs false
set_option linter.unusedVariables false
namespace Go.Proofs.YtmoofcmmpemdcaaGreatDoor
open Go.RowKit
theorem few22_ok {l : List ByteArray} (h : few22 l = true) : l.length ≤ 60 ∧ tot l ≤ 18000 := by
  unfold few22 at h
  rw [Bool.and_eq_true, decide_eq_true_eq, List.all_eq_true] at h
  refine ⟨h.1, ?_⟩
  have : ∀ l : List ByteArray, (∀ s ∈ l, s.size ≤ 300) → tot l ≤ 300 * l.length := by
    intro l
    induction l with
    | nil => intro _; exact Nat.le_refl _
    | cons s r ih =>
      intro hs
      have h1 := ih (fun x hx => hs x (List.mem_cons_of_mem _ hx))
      have h2 := hs s List.mem_cons_self
      rw [tot_cons, List.length_cons]
      omega
  have h2 := this l (fun s hs => of_decide_eq_true (h.2 s hs))
  omega
theorem hsame_self (h : Hd) (f f' : Value) (w : World) (hf : Flds w f h.fs) (hf' : Flds w f' h.fs) (hl : h.fs.length ≤ 1000000) : Calls Tryz.prog 23 #[.agg (h.row f), .agg (h.row f')] w fun e w' => e = .returned (.bool true) ∧ Below w.heap.size w w' := by
  have := hsame_any h.m h.t h.r h.m h.t h.r h.k h.n h.k h.n f f' h.fs h.fs (p1 := true) (p2 := true) (p3 := true) (p4 := true) (p5 := true) (by simp) (by simp) (by simp) (by simp) (by simp) w hf hf' (by omega) (by omega)
  unfold Hd.row
  simpa using this
end Go.Proofs.YtmoofcmmpemdcaaGreatDoor
set_option linter.unusedSimpArgs false
set_option linter.unusedVariables false
namespace Go.Proofs.YtmoofcmmpemdcaaGreatDoor
open Go.RowKit
/-- Texts as one, if they aren't too long. -/
def joinP : List ByteArray → Nat → ByteArray → ByteArray × Bool
  | [], _, s => (s, true)
  | t :: r, i, s => if 300 ≤ i ∨ 2000 < t.size ∨ 2000 < s.size then (⟨#[]⟩, false) else joinP r (i + 1) (s ++ t)
/-- The octets of texts. -/
def octs (l : List ByteArray) : List UInt8 := l.flatMap fun t => t.data.toList
theorem octs_append (a b : List ByteArray) : octs (a ++ b) = octs a ++ octs b := by unfold octs; rw [List.flatMap_append]
theorem octs_one (t : ByteArray) : octs [t] = t.data.toList := by unfold octs; simp
theorem joinP_ok : ∀ (l : List ByteArray) (i : Nat) (s : ByteArray), s.size ≤ 4000 → (joinP l i s).2 = true → (joinP l i s).1.data.toList = s.data.toList ++ octs l ∧ (joinP l i s).1.size ≤ 4000 ∧ (i ≤ 300 → i + l.length ≤ 300) ∧ ∀ t ∈ l, t.size ≤ 2000
  | [], i, s, hs, _ => ⟨by simp [joinP, octs], hs, fun h => h, fun t ht => by cases ht⟩
  | t :: r, i, s, hs, h => by
    rw [joinP] at h ⊢
    by_cases hc : 300 ≤ i ∨ 2000 < t.size ∨ 2000 < s.size
    · rw [if_pos hc] at h
      cases h
    · rw [if_neg hc] at h ⊢
      obtain ⟨h1, h2, h3, h4⟩ := joinP_ok r (i + 1) (s ++ t) (by rw [ByteArray.size_append]; omega) h
      refine ⟨?_, h2, fun hi => ?_, fun x hx => ?_⟩
      · rw [h1, show t :: r = [t] ++ r from rfl, octs_append, octs_one]
        simp
      · have := h3 (by omega)
        simp only [List.length_cons]
        omega
      · rcases List.mem_cons.1 hx with rfl | hx
        · omega
        · exact h4 x hx
theorem joinP_nil (l : List ByteArray) (i : Nat) (s : ByteArray) (h : (joinP l i s).2 = false) : (joinP l i s).1 = ⟨#[]⟩ := by
  induction l generalizing i s with
  | nil => cases h
  | cons t r ih =>
    rw [joinP] at h ⊢
    split at h
    · rename_i hc
      rw [if_pos hc]
    · rename_i hc
      rw [if_neg hc]
      exact ih _ _ h
set_option maxRecDepth 100000 in
set_option maxHeartbeats 2000000 in
theorem joined_any (v : Value) (l : List ByteArray) (w : World) (h : Strs w v l) (hl : l.length ≤ 9223372036854775807) :
    Calls Tryz.prog 17 #[v] w fun e w' => e = .returned (.tuple #[.string (joinP l 0 ⟨#[]⟩).1, .bool (joinP l 0 ⟨#[]⟩).2]) ∧ w = w' := by
  obtain ⟨p, c, rfl, hc⟩ := h
  obtain ⟨J, hJ⟩ : ∃ J, J = joinP l 0 ⟨#[]⟩ := ⟨_, rfl⟩
  rw [← hJ]
  have HJ := Lib.hid hJ
  have HC := Lib.hid hc
  clear hJ hc
  go_enter Tryz.func17, Tryz.ntmps17
  go_wp2_with fail
  go_loopw [4, 9] (fun u4 u9 wr => ∃ (k : Nat) (s : ByteArray), k ≤ l.length ∧ u9 = .int .i64 k ∧ u4 = .string s ∧ s.size ≤ 4000 ∧ J = joinP (l.drop k) k s ∧ w = wr) (fun _ u9 _ => l.length - (intOf u9).toNat)
  case atStart => exact ⟨0, ⟨#[]⟩, Nat.zero_le _, rfl, rfl, by decide, HJ.out, rfl⟩
  case round =>
    obtain ⟨k, s, hk, rfl, rfl, hs4, hpre, rfl⟩ := hrel
    have HP := Lib.hid hpre
    clear hpre
    by_cases hlt : k < l.length
    · have hk1 : decide ((k : Int) < (l.length : Int)) = true := decide_eq_true (by omega)
      obtain ⟨b, off, hp, h2⟩ := HC.out k hlt
      subst hp
      obtain ⟨t, ht⟩ : ∃ t, t = l[k] := ⟨_, rfl⟩
      rw [← ht] at h2
      have hst : J = if 300 ≤ k ∨ 2000 < t.size ∨ 2000 < s.size then (⟨#[]⟩, false) else joinP (l.drop (k + 1)) (k + 1) (s ++ t) := by
        rw [HP.out, List.drop_eq_getElem_cons hlt, ← ht, joinP]
      have HST := Lib.hid hst
      clear ht hst
      by_cases h300 : 300 ≤ k
      · have h3 : decide ((300 : Int) ≤ (k : Int)) = true := decide_eq_true (by omega)
        have hF : J = (⟨#[]⟩, false) := by rw [HST.out, if_pos (Or.inl h300)]
        subst hF
        go_wp2_with fail
        go_ret2
        exact ⟨rfl, rfl⟩
      have h3 : decide ((300 : Int) ≤ (k : Int)) = false := decide_eq_false (by omega)
      by_cases ht2 : 2000 < t.size
      · have h4 : decide ((2000 : Int) < (t.size : Int)) = true := decide_eq_true (by omega)
        have hF : J = (⟨#[]⟩, false) := by rw [HST.out, if_pos (Or.inr (Or.inl ht2))]
        subst hF
        go_wp2_with fail
        go_ret2
        exact ⟨rfl, rfl⟩
      have h4 : decide ((2000 : Int) < (t.size : Int)) = false := decide_eq_false (by omega)
      by_cases hs2 : 2000 < s.size
      · have h5 : decide ((2000 : Int) < (s.size : Int)) = true := decide_eq_true (by omega)
        have hF : J = (⟨#[]⟩, false) := by rw [HST.out, if_pos (Or.inr (Or.inr hs2))]
        subst hF
        go_wp2_with fail
        go_ret2
        exact ⟨rfl, rfl⟩
      have h5 : decide ((2000 : Int) < (s.size : Int)) = false := decide_eq_false (by omega)
      obtain ⟨P, hP⟩ : ∃ P, P = s ++ t := ⟨_, rfl⟩
      have hPs : P.size ≤ 4000 := by rw [hP, ByteArray.size_append]; omega
      have hadd : ∀ W : World, (Op.stringOp .add s t).run Tryz.prog W = .ok (.string P) W := fun W => (run_string_add_sum (P := Tryz.prog) (w := W) s t (by omega)).trans (by rw [← hP])
      have hn : J = joinP (l.drop (k + 1)) (k + 1) P := by rw [HST.out, if_neg (by omega), hP]
      have HN := Lib.hid hn
      have HPS := Lib.hid hPs
      clear hn hPs hP
      go_wp2_with fail
      go_roundw
      case rel => exact ⟨k + 1, P, by omega, by go_num, rfl, HPS.out, HN.out, by first | rfl | trivial⟩
      case measure => simp [intOf]; omega
    · have hk1 : decide ((k : Int) < (l.length : Int)) = false := decide_eq_false (by omega)
      have hF : J = (s, true) := by
        rw [HP.out, List.drop_of_length_le (by omega)]
        rfl
      subst hF
      go_wp2_with fail
      go_ret2
      exact ⟨rfl, rfl⟩
set_option maxRecDepth 100000 in
set_option maxHeartbeats 4000000 in
theorem feed_all {w : World} {b g B : Nat} {vl va vf : Value} {kind a fields c d fold : Int} {p : PaS} (h : PaAt w b g B vl va vf kind a fields c d fold p) (hb : PaBd p) (hfi : -9223372036854775808 ≤ fields ∧ fields ≤ 9223372036854775807) {mx : Int} (hm : w.cell? ⟨0, 0, none⟩ = some (.int .i64 mx)) (v : Value) (l : List ByteArray) (hv : ∀ W, Touch (PaP b g vl va) w W → Strs W v l) (hl : l.length ≤ 300) (hs : ∀ t ∈ l, t.size ≤ 4000) :
    Calls Tryz.prog 20 #[.pointer (some ⟨b, 0, none⟩), v] w fun e w' => e = .returned (.tuple #[.int .i64 (pRun kind fields fold (octs l) p).2, .int .i64 (if l = [] then 0 else (pRun kind fields fold (octs l) p).1.e)]) ∧
      ∃ vl' va' vf', PaAt w' b g B vl' va' vf' kind a fields c d fold (pRun kind fields fold (octs l) p).1 ∧ PaBd (pRun kind fields fold (octs l) p).1 ∧ Touch (PaP b g vl va) w w' ∧ FreshB w vl vl' ∧ FreshB w va va' := by
  obtain ⟨q, cc, rfl, _⟩ := hv w (Touch.refl _ _)
  obtain ⟨R, hR⟩ : ∃ R, R = pRun kind fields fold (octs l) p := ⟨_, rfl⟩
  rw [← hR]
  obtain ⟨FE, hFE⟩ : ∃ x : Int, x = if l = [] then 0 else R.1.e := ⟨_, rfl⟩
  rw [← hFE]
  have HFE := Lib.hid hFE
  clear hFE
  have hmB : ∀ W, Touch (PaP b g vl va) w W → W.cell? ⟨0, 0, none⟩ = some (.int .i64 mx) := fun W t => touch_cell t (by
    show ¬ PaP b g vl va 0
    have h1 := h.b0
    have h2 := h.g0
    have h3 := h.lt
    rintro (e | e | e | e)
    · omega
    · omega
    · have := (h.l.o.lt 0 e).1
      omega
    · have := (h.o.lt 0 e).1
      omega) hm
  have hos : ∀ k, k ≤ l.length → (octs (l.take k)).length ≤ 4000 * k := by
    intro k
    induction k with
    | zero => intro _; simp [octs]
    | succ k ih =>
      intro hk
      have h1 := ih (by omega)
      have h2 := hs (l[k]'(by omega)) (List.getElem_mem _)
      rw [List.take_succ_eq_append_getElem (by omega), octs_append, octs_one, List.length_append, ← Lib.size_eq]
      omega
  have H := Lib.hid h
  have HR := Lib.hid hR
  have HB := Lib.hid hb
  have HMX := Lib.hid hmB
  have HFI := Lib.hid hfi
  have HV := Lib.hid hv
  have HS := Lib.hid hs
  have HOS := Lib.hid hos
  clear h hR hb hmB hfi hm hv hs hos
  go_enter Tryz.func20, Tryz.ntmps20
  go_wp2_with fail
  go_loopw [6, 7, 14] (fun u6 u7 u14 wr => ∃ (k : Nat) (pk : PaS) (vlk vak vfk : Value), k ≤ l.length ∧ u14 = .int .i64 k ∧ PaAt wr b g B vlk vak vfk kind a fields c d fold pk ∧ PaBd pk ∧ pRun kind fields fold (octs (l.take k)) p = (pk, (octs (l.take k)).length) ∧ u6 = .int .i64 (octs (l.take k)).length ∧ u7 = .int .i64 (if k = 0 then 0 else pk.e) ∧ Touch (PaP b g vl va) w wr ∧ FreshB w vl vlk ∧ FreshB w va vak) (fun _ _ u14 _ => l.length - (intOf u14).toNat)
  case atStart => exact ⟨0, p, vl, va, vf, Nat.zero_le _, rfl, H.out, HB.out, by simp [octs, pRun], by simp [octs], rfl, Touch.refl _ _, FreshB.refl _ _, FreshB.refl _ _⟩
  case round =>
    obtain ⟨k, pk, vlk, vak, vfk, hk, rfl, hat, hok, hpre, rfl, rfl, htc, hfl, hfa⟩ := hrel
    have HP := Lib.hid hpre
    have HT := Lib.hid htc
    have HL := Lib.hid (And.intro hfl hfa)
    have hlo := HOS.out k hk
    obtain ⟨O, hO⟩ : ∃ O, O = (octs (l.take k)).length := ⟨_, rfl⟩
    rw [← hO] at hlo
    rw [← hO]
    have HO := Lib.hid hO
    clear hpre htc hfl hfa hO
    obtain ⟨E, hE⟩ : ∃ E : Int, E = if k = 0 then 0 else pk.e := ⟨_, rfl⟩
    rw [← hE]
    have HE := Lib.hid hE
    clear hE
    by_cases hlt : k < l.length
    · have hk1 : decide ((k : Int) < (l.length : Int)) = true := decide_eq_true (by omega)
      obtain ⟨q2, cc2, hvv, hc⟩ := HV.out _ HT.out
      injection hvv with e1 e2 e3
      clear e2 e3
      obtain ⟨bb, off, hp, h2⟩ := hc k hlt
      rw [← e1] at hp
      subst hp
      obtain ⟨t, ht⟩ : ∃ t, t = l[k] := ⟨_, rfl⟩
      rw [← ht] at h2
      have hts : t.size ≤ 4000 := HS.out t (by rw [ht]; exact List.getElem_mem hlt)
      have htk : octs (l.take (k + 1)) = octs (l.take k) ++ t.data.toList := by rw [List.take_succ_eq_append_getElem hlt, octs_append, octs_one, ← ht]
      obtain ⟨Z, hZ⟩ : ∃ Z, Z = pRun kind fields fold t.data.toList pk := ⟨_, rfl⟩
      have hzl : Z.2 ≤ t.size := by rw [hZ, Lib.size_eq]; exact pRun_le _ _ _ _ _
      have hnx : pRun kind fields fold (octs (l.take (k + 1))) p = (Z.1, O + Z.2) := by
        rw [htk, pRun_append, HP.out, if_pos rfl, ← hZ, HO.out]
      have hol : (octs (l.take (k + 1))).length = O + t.size := by rw [htk, List.length_append, ← HO.out, ← Lib.size_eq]
      have htot : Z.2 < t.size → R = (Z.1, O + Z.2) := by
        intro hz
        have e2 : octs l = octs (l.take (k + 1)) ++ octs (l.drop (k + 1)) := by rw [← octs_append, List.take_append_drop]
        rw [HR.out, e2, pRun_append, hnx, if_neg (by rw [hol]; show ¬ O + Z.2 = O + t.size; omega)]
      have HFD := Lib.hid (pfeed_any hat hok HFI.out (HMX.out _ HT.out) t (by omega))
      rw [← hZ] at HFD
      have HNX := Lib.hid hnx
      have HOL := Lib.hid hol
      have HTOT := Lib.hid htot
      have hw1 : wrap64 ((O : Int) + (Z.2 : Int)) = ((O + Z.2 : Nat) : Int) := by
        rw [IntWalk.wrap64_in _ ⟨by omega, by omega⟩]
        omega
      have HZL := Lib.hid hzl
      clear hnx hol htot htk ht hts hZ hat hok hc e1
      obtain ⟨Z1, Z2⟩ := Z
      by_cases hz : Z2 < t.size
      · have hz1 : decide ((Z2 : Int) < (t.size : Int)) = true := decide_eq_true (by omega)
        have hF := HTOT.out hz
        have hne : l ≠ [] := by intro e; rw [e] at hlt; simp at hlt
        have HF := Lib.hid hF
        have HNE := Lib.hid hne
        clear hF hne
        go_wp2_with (go_at_call 29; refine HFD.out.mono ?_; rintro e' w3 ⟨rfl, vl3, va3, vf3, hp3, hb3, ht3, hfl3, hfa3⟩; have H3 := Lib.hid (And.intro hp3 (And.intro hb3 (And.intro ht3 (And.intro hfl3 hfa3)))); clear hp3 hb3 ht3 hfl3 hfa3)
        go_ret2
        have hfe : FE = Z1.e := by rw [HFE.out, if_neg HNE.out, HF.out]
        rw [HF.out, hfe]
        refine ⟨?_, vl3, va3, vf3, H3.out.1, H3.out.2.1, touch_into HT.out H3.out.2.2.1 (paP_into HL.out.1 HL.out.2), HL.out.1.trans HT.out.size H3.out.2.2.2.1, HL.out.2.trans HT.out.size H3.out.2.2.2.2⟩
        show Ending.returned (.tuple #[.int .i64 (wrap64 ((O : Int) + (Z2 : Int))), .int .i64 Z1.e]) = _
        rw [hw1]
      · have hz1 : decide ((Z2 : Int) < (t.size : Int)) = false := decide_eq_false (by omega)
        have hze : Z2 = t.size := by have := HZL.out; simp only at this; omega
        have HZE := Lib.hid hze
        clear hze
        go_wp2_with (go_at_call 29; refine HFD.out.mono ?_; rintro e' w3 ⟨rfl, vl3, va3, vf3, hp3, hb3, ht3, hfl3, hfa3⟩; have H3 := Lib.hid (And.intro hp3 (And.intro hb3 (And.intro ht3 (And.intro hfl3 hfa3)))); clear hp3 hb3 ht3 hfl3 hfa3)
        go_roundw
        case rel =>
          refine ⟨k + 1, Z1, vl3, va3, vf3, hlt, by go_num, H3.out.1, H3.out.2.1, ?_, ?_, by rw [if_neg (Nat.succ_ne_zero k)], touch_into HT.out H3.out.2.2.1 (paP_into HL.out.1 HL.out.2), HL.out.1.trans HT.out.size H3.out.2.2.2.1, HL.out.2.trans HT.out.size H3.out.2.2.2.2⟩
          · rw [HNX.out, HOL.out, HZE.out]
          · rw [HOL.out, hw1, HZE.out]
        case measure => simp [intOf]; omega
    · have hk1 : decide ((k : Int) < (l.length : Int)) = false := decide_eq_false (by omega)
      have hkl : k = l.length := by omega
      have hF : R = (pk, O) := by rw [HR.out, HO.out, ← HP.out, List.take_of_length_le (by omega)]
      have hEe : E = if l = [] then 0 else pk.e := by
        rw [HE.out, hkl]
        by_cases e : l = []
        · rw [if_pos e, if_pos (by rw [e]; rfl)]
        · rw [if_neg e, if_neg (fun h => e (List.eq_nil_of_length_eq_zero h))]
      have HF := Lib.hid hF
      have HEE := Lib.hid hEe
      have HA := Lib.hid (And.intro hat hok)
      clear hF hEe hat hok
      go_wp2_with fail
      go_ret2
      have hfe : FE = E := by rw [HFE.out, HF.out]; exact HEE.out.symm
      rw [HF.out, hfe]
      exact ⟨rfl, vlk, vak, vfk, HA.out.1, HA.out.2, HT.out, HL.out.1, HL.out.2⟩
end Go.Proofs.YtmoofcmmpemdcaaGreatDoor
namespace Go.Proofs.YtmoofcmmpemdcaaGreatDoor
open Go.RowKit
set_option maxRecDepth 100000 in
theorem nfeed_nil (S : ByteArray) (w : World) : Calls Tryz.prog 29 #[.pointer none, .string S] w fun e w' => e = .returned (.tuple #[.int .i64 0, .int .i64 1]) ∧ w = w' := by
  go_enter Tryz.func29, Tryz.ntmps29
  go_wp2_with fail
  go_ret2
  exact ⟨rfl, rfl⟩
set_option maxRecDepth 100000 in
theorem nfeed_empty (S : ByteArray) (b : Nat) (w : World) (h : w.cell? ⟨b, 0, none⟩ = some (.pointer none)) : Calls Tryz.prog 29 #[.pointer (some ⟨b, 0, none⟩), .string S] w fun e w' => e = .returned (.tuple #[.int .i64 0, .int .i64 1]) ∧ w = w' := by
  go_enter Tryz.func29, Tryz.ntmps29
  go_wp2_with fail
  go_ret2
  exact ⟨rfl, rfl⟩
set_option maxRecDepth 100000 in
theorem ndone_nil (w : World) : Calls Tryz.prog 22 #[.pointer none] w fun e w' => e = .returned (.bool false) ∧ w = w' := by
  go_enter Tryz.func22, Tryz.ntmps22
  go_wp2_with fail
  go_ret
  exact ⟨rfl, rfl⟩
set_option maxRecDepth 100000 in
theorem nbegun_nil (w : World) : Calls Tryz.prog 25 #[.pointer none] w fun e w' => e = .returned (.bool false) ∧ w = w' := by
  go_enter Tryz.func25, Tryz.ntmps25
  go_wp2_with fail
  go_ret
  exact ⟨rfl, rfl⟩
set_option maxRecDepth 100000 in
theorem nbegun_empty (b : Nat) (w : World) (h : w.cell? ⟨b, 0, none⟩ = some (.pointer none)) : Calls Tryz.prog 25 #[.pointer (some ⟨b, 0, none⟩)] w fun e w' => e = .returned (.bool false) ∧ w = w' := by
  go_enter Tryz.func25, Tryz.ntmps25
  go_wp2_with fail
  go_ret
  exact ⟨rfl, rfl⟩
set_option maxRecDepth 100000 in
theorem nhead_nil (w : World) : Calls Tryz.prog 24 #[.pointer none] w fun e w' => e = .returned (.agg (hd0.row nilS)) ∧ Below w.heap.size w w' := by
  have HD := Lib.hid (fun (W : World) => ndone_nil W)
  go_enter Tryz.func24, Tryz.ntmps24
  go_wp2_with (go_at_call 22; refine (HD.out _).mono ?_; rintro e1 w1 ⟨rfl, h1⟩; subst h1)
  refine bodyPost_ret (results_cell_row (Tryz.results24) _ _ w.heap.size 24 (hd0.row nilS) (0, 0) _ rfl ?_ Tryz.underlying24 rfl (by kernel_rfl)) rfl ⟨rfl, ?_⟩
  · exact Blk.new _ _ _
  · exact (Below.refl w.heap.size w).alloc (Nat.le_refl _) _
theorem PaAt.raise {w : World} {b g B B' : Nat} {kind a fields c d fold : Int} {p : PaS} (h : PaAt w b g B nilS nilS nilS kind a fields c d fold p) (hp : p.ln.line = [] ∧ p.all = [] ∧ p.hd.fs = []) (hB : B ≤ B') (hB' : B' ≤ w.heap.size) : PaAt w b g B' nilS nilS nilS kind a fields c d fold p :=
  ⟨h.k, ⟨h.l.b, by rw [hp.1]; exact OwnB.start _ _, Nat.lt_of_lt_of_le h.l.lt hB, hB'⟩, by rw [hp.2.1]; exact OwnS.start _ _, by rw [hp.2.2]; exact OwnF.start _ _, h.z, Nat.lt_of_lt_of_le h.lt hB, h.ne, h.b0, h.g0, h.n⟩
end Go.Proofs.YtmoofcmmpemdcaaGreatDoor
set_option linter.unusedSimpArgs false
set_option linter.unusedVariables false
namespace Go.Proofs.YtmoofcmmpemdcaaGreatDoor
open Go.RowKit
theorem flds_of {w : World} {A : Option Addr} {len cap : Nat} {l : List Fd} (h : Fds w A len l) : Flds w (.slice A len cap) l := by
  refine ⟨A, cap, by rw [h.1], fun i hi => ?_⟩
  obtain ⟨b, off, e, _, hc⟩ := h.2 (by have := h.1; omega)
  obtain ⟨c0, c1⟩ := hc i l[i] (List.getElem?_eq_getElem hi)
  exact ⟨b, off, e, by rw [Nat.mul_comm 2 i]; exact c0, by rw [Nat.mul_comm 2 i]; exact c1⟩
def shortP (m t r : ByteArray) (l : List Fd) : Bool := fewF l && (decide (m.size ≤ 100) && (decide (t.size ≤ 500) && decide (r.size ≤ 300)))
theorem shortP_ok {m t r : ByteArray} {l : List Fd} (h : shortP m t r l = true) : l.length ≤ 40 ∧ (∀ g ∈ l, g.1.size ≤ 1000 ∧ g.2.size ≤ 1000) ∧ m.size ≤ 1000 ∧ t.size ≤ 1000 ∧ r.size ≤ 1000 := by
  unfold shortP fewF at h
  simp only [Bool.and_eq_true, decide_eq_true_eq, List.all_eq_true] at h
  obtain ⟨⟨h1, h2⟩, h3, h4, h5⟩ := h
  refine ⟨h1, fun g hg => ?_, by omega, by omega, by omega⟩
  have := h2 g hg
  omega
set_option maxRecDepth 100000 in
set_option maxHeartbeats 4000000 in
theorem short_any {w : World} {A : Option Addr} {len cap : Nat} {l : List Fd} (m t r : ByteArray) (k n : Int) (h : Fds w A len l) (hl : len ≤ 9223372036854775807) :
    Calls Tryz.prog 9 #[.agg #[.string m, .string t, .int .i64 k, .int .i64 n, .string r, .slice A len cap]] w fun e w' => e = .returned (.bool (shortP m t r l)) ∧ Below w.heap.size w w' := by
  have hb0 : Below w.heap.size w (w.alloc (.cells #[.string m, .string t, .int .i64 k, .int .i64 n, .string r, .slice A len cap] 24)) := (Below.refl _ _).alloc (Nat.le_refl _) _
  have HF := Lib.hid (few_any (cap := cap) (h.below hb0) hl)
  have KR := Lib.hid (Blk.new w #[.string m, .string t, .int .i64 k, .int .i64 n, .string r, .slice A len cap] 24)
  obtain ⟨p1, h1⟩ : ∃ p, p = fewF l := ⟨_, rfl⟩
  have HR : Hid (shortP m t r l = (p1 && (decide (m.size ≤ 100) && (decide (t.size ≤ 500) && decide (r.size ≤ 300))))) := by show _ = _; unfold shortP; rw [h1]
  rw [← h1] at HF
  clear h h1 hl hb0
  have dm : decide ((m.size : Int) ≤ 100) = decide (m.size ≤ 100) := decide_eq_decide.2 (by omega)
  have dt : decide ((t.size : Int) ≤ 500) = decide (t.size ≤ 500) := decide_eq_decide.2 (by omega)
  have dr : decide ((r.size : Int) ≤ 300) = decide (r.size ≤ 300) := decide_eq_decide.2 (by omega)
  have HD := Lib.hid (And.intro dm (And.intro dt dr))
  clear dm dt dr
  cases p1
  · go_enter Tryz.func9, Tryz.ntmps9
    go_wp2_with (go_at_call 30; refine HF.out.mono ?_; rintro e1 w1 ⟨rfl, hb1⟩; have HB1 := Lib.hid (below_one hb1); clear hb1)
    go_ret
    exact ⟨by rw [HR.out]; rfl, HB1.out⟩
  · by_cases hm : m.size ≤ 100 <;> by_cases ht : t.size ≤ 500 <;> by_cases hr : r.size ≤ 300
    all_goals
      first | (have dm : decide ((m.size : Int) ≤ 100) = true := decide_eq_true (by omega)) | (have dm : decide ((m.size : Int) ≤ 100) = false := decide_eq_false (by omega))
      first | (have dt : decide ((t.size : Int) ≤ 500) = true := decide_eq_true (by omega)) | (have dt : decide ((t.size : Int) ≤ 500) = false := decide_eq_false (by omega))
      first | (have dr : decide ((r.size : Int) ≤ 300) = true := decide_eq_true (by omega)) | (have dr : decide ((r.size : Int) ≤ 300) = false := decide_eq_false (by omega))
      go_enter Tryz.func9, Tryz.ntmps9
      go_wp2_with (go_at_call 30; refine HF.out.mono ?_; rintro e1 w1 ⟨rfl, hb1⟩; have HB1 := Lib.hid (below_one hb1); have K1 := Lib.hid (KR.out.call hb1); have x0 := K1.out.cell 0; have x1 := K1.out.cell 1; have x4 := K1.out.cell 4; simp at x0 x1 x4; clear hb1)
      go_ret
      refine ⟨?_, HB1.out⟩
      rw [HR.out]
      simp [hm, ht, hr]
end Go.Proofs.YtmoofcmmpemdcaaGreatDoor
set_option linter.unusedSimpArgs false
set_option linter.unusedVariables false
namespace Go.Proofs.YtmoofcmmpemdcaaGreatDoor
open Go.RowKit
theorem hb_posL (c : UInt8) : ∀ (l : List UInt8) (o : Nat), (∀ b ∈ l, b ≠ c) → posL c o l = []
  | [], _, _ => rfl
  | b :: l, o, h => by rw [posL_cons_ne (h b (by simp)), hb_posL c l (o + 1) (fun x hx => h x (by simp [hx]))]
theorem hb_tok {l : List UInt8} (h : tokL l = true) {c : UInt8} (hc : tcharB c.toNat = false) : ∀ b ∈ l, b ≠ c := by
  intro b hb e
  unfold tokL at h
  rw [Bool.and_eq_true, List.all_eq_true] at h
  have := h.2 b hb
  rw [e, hc] at this
  cases this
theorem hb_vis {l : List UInt8} (h : visL l = true) {c : UInt8} (hc : visB c.toNat = false) : ∀ b ∈ l, b ≠ c := by
  intro b hb e
  unfold visL at h
  rw [Bool.and_eq_true, List.all_eq_true] at h
  have := h.2 b hb
  rw [e, hc] at this
  cases this
theorem hb_val {l : List UInt8} (h : valL l = true) {c : UInt8} (hc : valueB c.toNat = false) : ∀ b ∈ l, b ≠ c := by
  intro b hb e
  unfold valL at h
  rw [List.all_eq_true] at h
  have := h b hb
  rw [e, hc] at this
  cases this
theorem hb_two {V : ByteArray} {k : Int} (h : vminor V = (k, 0)) : k = 0 ∨ k = 1 := by
  unfold vminor at h
  split at h
  · simp at h
  · split at h
    · split at h <;> simp only [Prod.mk.injEq] at h <;> omega
    · simp at h
theorem hb_ver {k : Int} (h : k = 0 ∨ k = 1) : vminor (verB k) = (k, 0) ∧ vform (verB k) = true := by
  rcases h with rfl | rfl
  · exact ⟨by decide +kernel, by decide +kernel⟩
  · exact ⟨by decide +kernel, by decide +kernel⟩
theorem hb_data {m t r : ByteArray} {k n : Int} (h : m.size ≠ 0) : (lineB m t k n r).data.toList = m.data.toList ++ ([32] ++ (t.data.toList ++ ([32] ++ (verB k).data.toList))) := by
  unfold lineB
  rw [if_neg h]
  simp [sp1]
theorem hb_data' {m t r : ByteArray} {k n : Int} (h : m.size = 0) : (lineB m t k n r).data.toList = (verB k).data.toList ++ ([32] ++ ((padB n 3).data.toList ++ ([32] ++ r.data.toList))) := by
  unfold lineB
  rw [if_pos h]
  simp [sp1]
theorem hb_sz (b : ByteArray) : b.data.toList.length = b.size := by simp
theorem hb_lsize {m t r : ByteArray} {k n : Int} (h : m.size ≠ 0) : (lineB m t k n r).size = m.size + t.size + 10 := by
  rw [← hb_sz, hb_data h]
  have := verB_size k
  rw [← hb_sz] at this
  simp only [List.length_append, this, hb_sz, List.length_cons, List.length_nil]
  omega
theorem hb_req_to {s m t : ByteArray} {k : Int} (h : reqRes s = ((m, t, k), 0)) : tokL m.data.toList = true ∧ visL t.data.toList = true ∧ (k = 0 ∨ k = 1) ∧ m.size ≤ s.size ∧ t.size ≤ s.size := by
  by_cases h2 : (posL 32 0 s.data.toList).length = 2
  rotate_left
  · rw [reqRes_form h2] at h; simp at h
  obtain ⟨a, b, hab⟩ : ∃ a b, posL 32 0 s.data.toList = [a, b] := by
    match hq : posL 32 0 s.data.toList, h2 with
    | [a, b], _ => exact ⟨a, b, rfl⟩
  rw [reqRes_two hab] at h
  cases ht : tokL (s.extract 0 a).data.toList
  · rw [ht, if_pos rfl] at h; simp at h
  rw [ht, if_neg (by decide)] at h
  cases hv : visL (s.extract (a + 1) b).data.toList
  · rw [hv, if_pos rfl] at h; simp at h
  rw [hv, if_neg (by decide)] at h
  obtain ⟨k', f, hk⟩ : ∃ k' f, vminor (s.extract (b + 1) s.size) = (k', f) := ⟨_, _, rfl⟩
  rw [hk] at h
  by_cases hf : f = 0
  rotate_left
  · rw [if_pos hf] at h
    have := (Prod.mk.inj h).2
    exact absurd this hf
  subst hf
  rw [if_neg (by simp)] at h
  obtain ⟨h1, _⟩ := Prod.mk.inj h
  obtain ⟨rfl, h3⟩ := Prod.mk.inj h1
  obtain ⟨rfl, h4⟩ := Prod.mk.inj h3
  have h4 : k' = k := h4
  subst h4
  refine ⟨ht, hv, hb_two hk, ?_, ?_⟩
  · simp only [ByteArray.size_extract]; omega
  · simp only [ByteArray.size_extract]; omega
theorem hb_tok_ne {M : ByteArray} (h : tokL M.data.toList = true) : M.size ≠ 0 := by
  intro h0
  unfold tokL at h
  rw [Bool.and_eq_true] at h
  have : M.data.toList = [] := List.eq_nil_of_length_eq_zero (by rw [hb_sz]; exact h0)
  rw [this] at h
  exact absurd h.1 (by decide)
theorem hb_req_of {M T : ByteArray} {k : Int} (ht : tokL M.data.toList = true) (hv : visL T.data.toList = true) (hk : k = 0 ∨ k = 1) : reqRes (lineB M T k 0 ⟨#[]⟩) = ((M, T, k), 0) := by
  have hm0 := hb_tok_ne ht
  have hL := hb_data (m := M) (t := T) (k := k) (n := 0) (r := ⟨#[]⟩) hm0
  have hLs := hb_lsize (m := M) (t := T) (k := k) (n := 0) (r := ⟨#[]⟩) hm0
  obtain ⟨L, hLe⟩ : ∃ L, L = lineB M T k 0 ⟨#[]⟩ := ⟨_, rfl⟩
  rw [← hLe] at hL hLs ⊢
  have hmv := hb_ver hk
  have hver : ∀ b ∈ (verB k).data.toList, b ≠ 32 := by
    rcases hk with rfl | rfl <;> decide
  have hpos : posL 32 0 L.data.toList = [M.size, M.size + 1 + T.size] := by
    rw [hL, posL_append, hb_posL 32 _ _ (hb_tok ht (by decide)), hb_sz, List.nil_append, Nat.zero_add, List.singleton_append, posL_cons_eq, posL_append, hb_posL 32 _ _ (hb_vis hv (by decide)), hb_sz, List.nil_append, List.singleton_append, posL_cons_eq, hb_posL 32 _ _ hver]
  have e1 : L.extract 0 M.size = M := ext_list (by
    rw [Lib.extract_data, hL, List.drop_zero, Nat.sub_zero, ← hb_sz M, List.take_left'] <;> rfl)
  have e2 : L.extract (M.size + 1) (M.size + 1 + T.size) = T := ext_list (by
    rw [Lib.extract_data, hL, ← List.append_assoc, List.drop_left' (by simp), Nat.add_sub_cancel_left, ← hb_sz T, List.take_left'] <;> rfl)
  have e3 : L.extract (M.size + 1 + T.size + 1) L.size = verB k := ext_list (by
    rw [Lib.extract_data, hL, ← List.append_assoc, ← List.append_assoc, ← List.append_assoc, List.drop_left' (by simp; omega)]
    apply List.take_of_length_le
    rw [hb_sz, verB_size]; omega)
  rw [reqRes_two hpos, e1, e2, e3, ht, hv, hmv.1]
  rfl
theorem hb_fig {n : Int} (h1 : 100 ≤ n) (h2 : n ≤ 599) : figL 10 n.natAbs = [figD (n.natAbs / 100), figD (n.natAbs / 10 % 10), figD (n.natAbs % 10)] := by
  rw [figL_high (by decide) (by omega), figL_high (b := 10) (n := n.natAbs / 10) (by decide) (by omega), figL_low (by omega), Nat.div_div_eq_div_mul]
  rfl
theorem hb_dig (d : Nat) (h : d < 10) : digV (figD d).toNat = d ∧ 48 ≤ ((figD d).toNat : Int) ∧ ((figD d).toNat : Int) ≤ 57 := by
  have : ∀ d, d < 10 → digV (figD d).toNat = d ∧ 48 ≤ ((figD d).toNat : Int) ∧ ((figD d).toNat : Int) ≤ 57 := by decide
  exact this d h
theorem hb_pad {n : Int} (h1 : 100 ≤ n) (h2 : n ≤ 599) : (padB n 3).data.toList = [figD (n.natAbs / 100), figD (n.natAbs / 10 % 10), figD (n.natAbs % 10)] := by
  unfold padB
  have ht : textB n = ⟨(figL 10 n.natAbs).toArray⟩ := by unfold textB; rw [if_neg (by omega)]
  have hz : (textB n).size = 3 := by rw [ht, hb_fig h1 h2]; rfl
  rw [if_neg (by omega), hz, show ((min (3 : Int) 20) - ((3 : Nat) : Int)).toNat = 0 from by decide, zerosB_zero, ht, hb_fig h1 h2]
theorem hb_stat_to {s r : ByteArray} {k n : Int} (h : statRes s = ((k, n, r), 0)) : (k = 0 ∨ k = 1) ∧ 100 ≤ n ∧ n ≤ 599 ∧ valL r.data.toList = true ∧ r.size ≤ s.size := by
  cases hF : statForm s
  · rw [statRes_form hF] at h; simp at h
  obtain ⟨k', f, hk⟩ : ∃ k' f, vminor (hd8 s) = (k', f) := ⟨_, _, rfl⟩
  by_cases hf : f = 0
  rotate_left
  · rw [statRes_minor hF hk hf] at h
    exact absurd (Prod.mk.inj h).2 hf
  subst hf
  obtain ⟨a, ha⟩ : ∃ a, numV 10 (mid3 s).data.toList = a := ⟨_, rfl⟩
  by_cases hr : a < 100 ∨ 599 < a
  · rw [statRes_range hF hk ha hr] at h; simp at h
  have hr1 : 100 ≤ a := by omega
  have hr2 : a ≤ 599 := by omega
  cases hv : valL (rest13 s).data.toList
  · rw [statRes_value hF hk ha hr1 hr2 hv] at h; simp at h
  rw [statRes_ok hF hk ha hr1 hr2 hv] at h
  obtain ⟨h1, _⟩ := Prod.mk.inj h
  obtain ⟨rfl, h3⟩ := Prod.mk.inj h1
  obtain ⟨rfl, rfl⟩ := Prod.mk.inj h3
  refine ⟨hb_two hk, hr1, hr2, hv, ?_⟩
  unfold rest13
  simp only [ByteArray.size_extract]
  omega
theorem hb_stat_of {R : ByteArray} {k a : Int} (hk : k = 0 ∨ k = 1) (hr1 : 100 ≤ a) (hr2 : a ≤ 599) (hv : valL R.data.toList = true) : statRes (lineB ⟨#[]⟩ ⟨#[]⟩ k a R) = ((k, a, R), 0) := by
  have hmv := hb_ver hk
  obtain ⟨L, hLe⟩ : ∃ L, L = lineB ⟨#[]⟩ ⟨#[]⟩ k a R := ⟨_, rfl⟩
  have hL := hb_data' (m := ⟨#[]⟩) (t := ⟨#[]⟩) (k := k) (n := a) (r := R) rfl
  rw [← hLe, hb_pad hr1 hr2] at hL
  have hVl : (verB k).data.toList.length = 8 := by rw [hb_sz, verB_size]
  have hLs : L.size = 13 + R.size := by
    rw [← hb_sz, hL]
    simp only [List.length_append, hVl, hb_sz, List.length_cons, List.length_nil]
    omega
  rw [← hLe]
  have g : ∀ i c, (L.data.toList)[i]? = some c → bt L i = (c.toNat : Int) := fun i c hi => by
    have hlt : i < L.size := by
      rcases Nat.lt_or_ge i L.size with h | h
      · exact h
      · rw [List.getElem?_eq_none (by rw [hb_sz]; exact h)] at hi; cases hi
    rw [bt_get L i hlt]
    rw [List.getElem?_eq_getElem (by rw [hb_sz]; exact hlt)] at hi
    have := Option.some.inj hi
    exact congrArg (fun b : UInt8 => (b.toNat : Int)) this
  have gi : ∀ i, 8 ≤ i → L.data.toList[i]? = ([32] ++ ([figD (a.natAbs / 100), figD (a.natAbs / 10 % 10), figD (a.natAbs % 10)] ++ ([32] ++ R.data.toList)))[i - 8]? := fun i hi => by
    rw [hL, List.getElem?_append_right (by omega), hVl]
  have b8 : bt L 8 = 32 := g 8 32 (by rw [gi 8 (by omega)]; rfl)
  have b9 : bt L 9 = ((figD (a.natAbs / 100)).toNat : Int) := g 9 _ (by rw [gi 9 (by omega)]; rfl)
  have b10 : bt L 10 = ((figD (a.natAbs / 10 % 10)).toNat : Int) := g 10 _ (by rw [gi 10 (by omega)]; rfl)
  have b11 : bt L 11 = ((figD (a.natAbs % 10)).toNat : Int) := g 11 _ (by rw [gi 11 (by omega)]; rfl)
  have b12 : bt L 12 = 32 := g 12 32 (by rw [gi 12 (by omega)]; rfl)
  have x1 := hb_dig (a.natAbs / 100) (by omega)
  have x2 := hb_dig (a.natAbs / 10 % 10) (by omega)
  have x3 := hb_dig (a.natAbs % 10) (by omega)
  have e8 : hd8 L = verB k := ext_list (by
    unfold hd8
    rw [Lib.extract_data, hL, List.drop_zero, List.take_left' (by omega)])
  have em : (mid3 L).data.toList = [figD (a.natAbs / 100), figD (a.natAbs / 10 % 10), figD (a.natAbs % 10)] := by
    unfold mid3
    rw [Lib.extract_data, hL, ← List.append_assoc, List.drop_left' (by rw [List.length_append, hVl]; rfl)]
    rfl
  have er : rest13 L = R := ext_list (by
    unfold rest13
    rw [Lib.extract_data, hL, Nat.min_eq_left (by omega), ← List.append_assoc, ← List.append_assoc, ← List.append_assoc, List.drop_left' (by simp only [List.length_append, hVl]; rfl), List.take_of_length_le (by rw [hb_sz]; omega)])
  have hn : numV 10 (mid3 L).data.toList = a := by
    rw [em]
    simp only [numV, List.foldl_cons, List.foldl_nil, x1.1, x2.1, x3.1]
    omega
  have hform : statForm L = true := by
    unfold statForm
    rw [decide_eq_true (by omega), decide_eq_true b8, decide_eq_true b12, e8, hmv.2, b9, b10, b11]
    unfold isDg
    rw [decide_eq_true x1.2, decide_eq_true x2.2, decide_eq_true x3.2]
    simp
  have hmm : vminor (hd8 L) = (k, 0) := by rw [e8]; exact hmv.1
  rw [statRes_ok hform hmm hn hr1 hr2 (by rw [er]; exact hv), er]
/-- No octet ends a line. -/
def noB (l : List UInt8) : Prop := ∀ b ∈ l, b ≠ 10 ∧ b ≠ 13
theorem noB_app {a b : List UInt8} (ha : noB a) (hb : noB b) : noB (a ++ b) := fun x hx => (List.mem_append.1 hx).elim (ha x) (hb x)
theorem noB_tok {l : List UInt8} (h : tokL l = true) : noB l := fun b hb => ⟨hb_tok h (by decide) b hb, hb_tok h (by decide) b hb⟩
theorem noB_vis {l : List UInt8} (h : visL l = true) : noB l := fun b hb => ⟨hb_vis h (by decide) b hb, hb_vis h (by decide) b hb⟩
theorem noB_val {l : List UInt8} (h : valL l = true) : noB l := fun b hb => ⟨hb_val h (by decide) b hb, hb_val h (by decide) b hb⟩
theorem noB_ver {k : Int} (h : k = 0 ∨ k = 1) : noB (verB k).data.toList := by
  rcases h with rfl | rfl
  · show ∀ b ∈ (verB 0).data.toList, b ≠ 10 ∧ b ≠ 13
    decide
  · show ∀ b ∈ (verB 1).data.toList, b ≠ 10 ∧ b ≠ 13
    decide
theorem noB_fig {d : Nat} (h : d < 10) : figD d ≠ 10 ∧ figD d ≠ 13 := by
  have := (hb_dig d h).2.1
  refine ⟨fun e => ?_, fun e => ?_⟩
  · rw [e] at this; exact absurd this (by decide)
  · rw [e] at this; exact absurd this (by decide)
theorem noB_pad {n : Int} (h1 : 100 ≤ n) (h2 : n ≤ 599) : noB (padB n 3).data.toList := by
  rw [hb_pad h1 h2]
  intro b hb
  simp only [List.mem_cons, List.not_mem_nil, or_false] at hb
  rcases hb with rfl | rfl | rfl
  · exact noB_fig (by omega)
  · exact noB_fig (by omega)
  · exact noB_fig (by omega)
theorem noB_32 : noB [32] := by
  show ∀ b ∈ [(32 : UInt8)], b ≠ 10 ∧ b ≠ 13
  decide
/-- A field's line. -/
theorem hb_trim {l : List UInt8} : trimL (trimL l) = trimL l := by
  apply trim_id
  · intro b hb
    unfold trimL at hb
    obtain ⟨t, ht⟩ := List.dropWhile_suffix (l := (l.dropWhile blL).reverse) blL
    rw [List.head?_reverse] at hb
    have : ((l.dropWhile blL).reverse).getLast? = some b := by
      rw [← ht, List.getLast?_append, hb]
      rfl
    rw [List.getLast?_reverse] at this
    have h2 := List.head?_dropWhile_not blL l
    rw [this] at h2
    simpa using h2
  · intro b hb
    unfold trimL at hb
    rw [List.getLast?_reverse] at hb
    have h2 := List.head?_dropWhile_not blL (l.dropWhile blL).reverse
    rw [hb] at h2
    simpa using h2
theorem hb_pre {n : List UInt8} (h : tokL n = true) (r : List UInt8) : preL (n ++ 58 :: r) = n := by
  unfold preL
  have hn := hb_tok h (c := 58) (by decide)
  clear h
  induction n with
  | nil => simp
  | cons b n ih =>
    rw [List.cons_append, List.takeWhile_cons, if_pos (by simpa using hn b (by simp)), ih (fun x hx => hn x (by simp [hx]))]
theorem hb_fline_data (n v : ByteArray) : (flineB n v).data.toList = n.data.toList ++ 58 :: (if v.size = 0 then [] else 32 :: v.data.toList) := by
  unfold flineB
  split <;> simp
theorem hb_fparse {n v : ByteArray} (h : fieldR n v = true) : fparse (flineB n v) = ((n, v), 0) ∧ goesB (flineB n v) = false ∧ noB (flineB n v).data.toList ∧ (flineB n v).data.toList ≠ [] := by
  unfold fieldR at h
  simp only [Bool.and_eq_true] at h
  obtain ⟨h1, h2, h3⟩ := h
  have hd := hb_fline_data n v
  have hv : trimB v = v := by
    have := eq_of_beq h3
    simp only [ByteArray.toList_eq] at this
    exact ext_list this
  obtain ⟨r, hr⟩ : ∃ r, r = (if v.size = 0 then ([] : List UInt8) else 32 :: v.data.toList) := ⟨_, rfl⟩
  rw [← hr] at hd
  have hp : preL (flineB n v).data.toList = n.data.toList := by rw [hd]; exact hb_pre h1 r
  have hdr : (flineB n v).data.toList.drop (n.data.toList.length + 1) = r := by
    rw [hd, List.drop_append]
    simp
  have hsz : (flineB n v).size = n.data.toList.length + 1 + r.length := by
    rw [← hb_sz, hd]; simp; omega
  have hvr : valL r = true := by
    rw [hr]
    split
    · rfl
    · unfold valL at h2 ⊢
      rw [List.all_cons, h2]
      rfl
  have htr : trimB ⟨r.toArray⟩ = v := by
    unfold trimB
    show (⟨(trimL r).toArray⟩ : ByteArray) = v
    rw [hr]
    split
    · rename_i h0
      apply ext_list
      have : v.data.toList = [] := List.eq_nil_of_length_eq_zero (by rw [hb_sz]; exact h0)
      rw [this]
      rfl
    · have := trim_front (p := [32]) v.data.toList (by intro b hb; rw [List.mem_singleton.1 hb]; rfl)
      rw [List.singleton_append] at this
      rw [this]
      exact hv
  refine ⟨?_, ?_, ?_, ?_⟩
  · unfold fparse
    rw [hp, hdr, if_neg (by omega), h1, hvr, htr, if_neg (by decide), if_neg (by decide)]
  · unfold goesB
    rw [hd]
    have hn0 := hb_tok_ne h1
    rw [← hb_sz] at hn0
    cases hc : n.data.toList with
    | nil => rw [hc] at hn0; exact absurd rfl hn0
    | cons b rest =>
      have e1 := hb_tok h1 (c := 32) (by decide) b (by rw [hc]; simp)
      have e2 := hb_tok h1 (c := 9) (by decide) b (by rw [hc]; simp)
      simp [e1, e2]
  · rw [hd]
    refine noB_app (noB_tok h1) (noB_app (a := [58]) (by show ∀ b ∈ [(58 : UInt8)], b ≠ 10 ∧ b ≠ 13; decide) (noB_val hvr))
  · rw [hd]; simp
theorem hb_fparse_to {s : ByteArray} (h : (fparse s).2 = 0) : fieldR (fparse s).1.1 (fparse s).1.2 = true ∧ (fparse s).1.1.size ≤ s.size ∧ (fparse s).1.2.size ≤ s.size := by
  unfold fparse at h ⊢
  split at h
  · cases h
  rename_i h0
  rw [if_neg h0]
  split at h
  · cases h
  rename_i h1
  rw [if_neg h1]
  split at h
  · cases h
  rename_i h2
  rw [if_neg h2]
  have h1 : tokL (preL s.data.toList) = true := by simpa using h1
  have h2 : valL (s.data.toList.drop ((preL s.data.toList).length + 1)) = true := by simpa using h2
  refine ⟨?_, preL_size s, Nat.le_trans (trimB_size _) (post_size s _)⟩
  show fieldR ⟨(preL s.data.toList).toArray⟩ (trimB ⟨(s.data.toList.drop ((preL s.data.toList).length + 1)).toArray⟩) = true
  generalize s.data.toList.drop ((preL s.data.toList).length + 1) = x at h2 ⊢
  unfold fieldR
  have e1 : (trimB ⟨x.toArray⟩).data.toList = trimL x := rfl
  have e2 : trimB (trimB ⟨x.toArray⟩) = trimB ⟨x.toArray⟩ := by
    apply ext_list
    show trimL (trimL x) = trimL x
    exact hb_trim
  rw [e2, e1, h1]
  have h3 : valL (trimL x) = true := by
    unfold valL at h2 ⊢
    rw [List.all_eq_true] at h2 ⊢
    intro b hb
    unfold trimL at hb
    have hb := List.mem_reverse.1 hb
    have hb := (List.dropWhile_sublist blL).subset hb
    have hb := List.mem_reverse.1 hb
    exact h2 b ((List.dropWhile_sublist blL).subset hb)
  rw [h3]
  simp
theorem ufold_all (fold : Int) : ∀ (l out : List ByteArray), (∀ s ∈ l, goesB s = false) → l.foldl (ufStep fold) (some out) = some (out ++ l)
  | [], out, _ => by simp
  | s :: l, out, h => by
    rw [List.foldl_cons]
    have : ufStep fold (some out) s = some (out ++ [s]) := by
      unfold ufStep
      simp only
      rw [if_pos (h s (by simp))]
    rw [this, ufold_all fold l _ (fun x hx => h x (by simp [hx]))]
    simp
theorem hb_all (l : List Fd) (h : allR l = true) : allF 0 (l.map fun f => flineB f.1 f.2) = (l, 0) := by
  unfold allR at h
  rw [List.all_eq_true] at h
  have hu : ufold 0 (l.map fun f => flineB f.1 f.2) = some (l.map fun f => flineB f.1 f.2) := by
    unfold ufold
    rw [ufold_all 0 _ [] (fun s hs => by
      obtain ⟨f, hf, rfl⟩ := List.mem_map.1 hs
      exact (hb_fparse (h f hf)).2.1)]
    simp
  unfold allF
  rw [hu]
  show pAcc (l.map fun f => flineB f.1 f.2) = (l, 0)
  rw [pAcc_ok _ (fun k hk => by
    rw [List.getElem_map]
    rw [(hb_fparse (h _ (List.getElem_mem _))).1])]
  have : (l.map fun f => flineB f.1 f.2).map (fun s => (fparse s).1) = l := by
    rw [List.map_map]
    conv => rhs; rw [← List.map_id l]
    apply List.map_congr_left
    intro f hf
    show (fparse (flineB f.1 f.2)).1 = f
    rw [(hb_fparse (h f hf)).1]
  rw [this]
theorem pAcc_right : ∀ (l : List ByteArray), (pAcc l).2 = 0 → ∀ B, (∀ s ∈ l, s.size ≤ B) → allR (pAcc l).1 = true ∧ ∀ g ∈ (pAcc l).1, g.1.size ≤ B ∧ g.2.size ≤ B
  | [], _, _, _ => ⟨rfl, fun g hg => by cases hg⟩
  | s :: l, h, B, hB => by
    unfold pAcc at h ⊢
    split at h
    · rename_i h0; exact absurd h h0
    rename_i h0
    rw [if_neg h0]
    split at h
    · rename_i h1; exact absurd h h1
    rename_i h1
    rw [if_neg h1]
    obtain ⟨i1, i2⟩ := pAcc_right l (Decidable.byContradiction h1) B (fun s hs => hB s (by simp [hs]))
    obtain ⟨f1, f2, f3⟩ := hb_fparse_to (Decidable.byContradiction h0)
    have := hB s (by simp)
    refine ⟨?_, fun g hg => ?_⟩
    · unfold allR at i1 ⊢
      rw [List.all_cons, f1, i1]
      rfl
    · rcases List.mem_cons.1 hg with rfl | hg
      · exact ⟨Nat.le_trans f2 this, Nat.le_trans f3 this⟩
      · exact i2 g hg
theorem allF_right (fold : Int) (l : List ByteArray) (h : (allF fold l).2 = 0) (B : Nat) (hB : tot l + l.length ≤ B) : allR (allF fold l).1 = true ∧ ∀ g ∈ (allF fold l).1, g.1.size ≤ B ∧ g.2.size ≤ B := by
  unfold allF at h ⊢
  cases hu : ufold fold l with
  | none => rw [hu] at h; cases h
  | some out =>
    rw [hu] at h
    refine pAcc_right out h B (fun s hs => Nat.le_trans (ufold_le (k := l.length) (fold := fold) (l := l) (Nat.le_refl _) (by rw [List.take_length]; exact hu) hs) hB)
/-- What Parse answers is right. -/
theorem headP_right (kind fields fold : Int) (l : List ByteArray) (h : (headP kind fields fold l).2 = 0) (B : Nat) (hB : tot l + l.length ≤ B) :
    rightP (headP kind fields fold l).1.m (headP kind fields fold l).1.t (headP kind fields fold l).1.k (headP kind fields fold l).1.n (headP kind fields fold l).1.r (headP kind fields fold l).1.fs = true ∧ (headP kind fields fold l).1.m.size ≤ B ∧ (headP kind fields fold l).1.t.size ≤ B ∧ (headP kind fields fold l).1.r.size ≤ B ∧ ∀ g ∈ (headP kind fields fold l).1.fs, g.1.size ≤ B ∧ g.2.size ≤ B := by
  unfold headP at h ⊢
  by_cases hk : kind ≠ 1 ∧ kind ≠ 2
  · rw [if_pos hk] at h; cases h
  rw [if_neg hk] at h ⊢
  cases l with
  | nil => cases h
  | cons s rest =>
    rw [tot_cons, List.length_cons] at hB
    simp only at h ⊢
    split at h
    · rename_i h0; exact absurd h h0
    rename_i h0
    rw [if_neg h0]
    split at h
    · cases h
    rename_i h1
    rw [if_neg h1]
    split at h
    · rename_i h2; exact absurd h h2
    rename_i h2
    rw [if_neg h2]
    obtain ⟨a1, a2⟩ := allF_right fold rest (Decidable.byContradiction h2) B (by omega)
    have h0 : (firstP kind s).2 = 0 := Decidable.byContradiction h0
    simp only
    generalize (allF fold rest).1 = fs at a1 a2 ⊢
    unfold firstP at h0 ⊢
    by_cases k1 : kind = 1
    · rw [if_pos k1] at h0 ⊢
      simp only at h0 ⊢
      rcases hq : reqRes s with ⟨⟨m, t, k⟩, e⟩
      rw [hq] at h0
      have h0 : e = 0 := h0
      subst h0
      obtain ⟨b1, b2, b3, b4, b5⟩ := hb_req_to hq
      simp only
      refine ⟨?_, by omega, by omega, Nat.zero_le _, a2⟩
      unfold rightP reqR
      rw [b1, b2, a1]
      have hem : (⟨#[]⟩ : ByteArray).toList.isEmpty = true := by rw [isEmpty_list]; rfl
      rw [hem]
      rcases b3 with rfl | rfl <;> simp
    · rw [if_neg k1] at h0 ⊢
      simp only at h0 ⊢
      rcases hq : statRes s with ⟨⟨k, n, r⟩, e⟩
      rw [hq] at h0
      have h0 : e = 0 := h0
      subst h0
      obtain ⟨b1, b2, b3, b4, b5⟩ := hb_stat_to hq
      simp only
      refine ⟨?_, Nat.zero_le _, Nat.zero_le _, by omega, a2⟩
      unfold rightP rspR
      rw [b4, a1, decide_eq_true b2, decide_eq_true b3]
      rcases b1 with rfl | rfl <;> simp
/-- A parser that has ended holds what its lines are. -/
def PaEnd (kind fields fold : Int) (p : PaS) : Prop := p.fin = true → p.hd = (headP kind fields fold p.all).1 ∧ p.e = (headP kind fields fold p.all).2
theorem pRun_end (kind fields fold : Int) : ∀ (l : List UInt8) (p : PaS), PaEnd kind fields fold p → PaEnd kind fields fold (pRun kind fields fold l p).1
  | [], p, h => h
  | c :: r, p, h => by
    rw [pRun]
    split
    · exact h
    rename_i h0
    split
    · refine pRun_end kind fields fold r _ ?_
      unfold pTake
      split
      · unfold lineP
        split
        · intro hf; exact absurd (Or.inl hf) h0
        split
        · intro _; exact ⟨rfl, rfl⟩
        · intro hf; exact absurd (Or.inl hf) h0
      · intro hf; exact absurd (Or.inl hf) h0
    · intro hf; exact absurd (Or.inl hf) h0
/-- What is read is right. -/
theorem pRun_right (kind fields fold : Int) (l : List UInt8) (a : Int) (hb : PaBd (pRun kind fields fold l (pa0 a)).1) (hf : ((pRun kind fields fold l (pa0 a)).1.fin && (pRun kind fields fold l (pa0 a)).1.e == 0) = true) :
    rightP (pRun kind fields fold l (pa0 a)).1.hd.m (pRun kind fields fold l (pa0 a)).1.hd.t (pRun kind fields fold l (pa0 a)).1.hd.k (pRun kind fields fold l (pa0 a)).1.hd.n (pRun kind fields fold l (pa0 a)).1.hd.r (pRun kind fields fold l (pa0 a)).1.hd.fs = true ∧ (pRun kind fields fold l (pa0 a)).1.hd.m.size ≤ 1000000 ∧ (pRun kind fields fold l (pa0 a)).1.hd.t.size ≤ 1000000 ∧ (pRun kind fields fold l (pa0 a)).1.hd.r.size ≤ 1000000 ∧ ∀ g ∈ (pRun kind fields fold l (pa0 a)).1.hd.fs, g.1.size ≤ 1000000 ∧ g.2.size ≤ 1000000 := by
  have he := pRun_end kind fields fold l (pa0 a) (fun h => by cases h)
  obtain ⟨t1, t2⟩ := hb.all
  generalize (pRun kind fields fold l (pa0 a)).1 = p at he hf t1 t2 ⊢
  rw [Bool.and_eq_true] at hf
  obtain ⟨e1, e2⟩ := he hf.1
  rw [e1]
  exact headP_right kind fields fold p.all (by rw [← e2]; exact eq_of_beq hf.2) 1000000 (by omega)
/-- Lines written out. -/
def encL (ls : List (List UInt8)) : List UInt8 := ls.flatMap fun x => x ++ [13, 10]
theorem encL_cons (x : List UInt8) (ls : List (List UInt8)) : encL (x :: ls) = x ++ 13 :: 10 :: encL ls := by unfold encL; simp
theorem encL_append (a b : List (List UInt8)) : encL (a ++ b) = encL a ++ encL b := by unfold encL; rw [List.flatMap_append]
theorem encL_length (ls : List (List UInt8)) : (encL ls).length = lsum ls := by
  induction ls with
  | nil => rfl
  | cons x ls ih =>
    rw [encL_cons]
    simp only [List.length_append, List.length_cons, ih]
    unfold lsum
    simp
    omega
theorem rdL_text (most : Int) : ∀ (x r : List UInt8) (i : Nat) (cur : List UInt8), noB x → (i : Int) + x.length ≤ most → rdL most (x ++ r) i cur false = rdL most r (i + x.length) (cur ++ x) false
  | [], r, i, cur, _, _ => by simp
  | c :: x, r, i, cur, h, hm => by
    obtain ⟨h1, h2⟩ := h c (by simp)
    rw [List.length_cons] at hm
    rw [List.cons_append, rdL, if_neg (by omega), if_neg (by rw [decide_eq_false h1]; simp), if_neg h2, if_neg h1, rdL_text most x r (i + 1) (cur ++ [c]) (fun b hb => h b (by simp [hb])) (by omega)]
    rw [List.append_assoc, List.length_cons, Nat.add_assoc, Nat.add_comm 1]
    rfl
theorem rdL_line (most : Int) (x r : List UInt8) (i : Nat) (h : noB x) (hm : (i : Int) + x.length + 2 ≤ most) : rdL most (x ++ 13 :: 10 :: r) i [] false = (x :: (rdL most r (i + (x.length + 2)) [] false).1, (rdL most r (i + (x.length + 2)) [] false).2) := by
  rw [rdL_text most x _ i [] h (by omega), rdL, if_neg (by omega), if_neg (by decide), if_pos rfl, rdL, if_neg (by omega), if_neg (by decide), if_neg (by decide), if_pos rfl, List.nil_append]
  rfl
theorem rdL_enc (most : Int) : ∀ (ls : List (List UInt8)) (r : List UInt8) (i : Nat), (∀ x ∈ ls, noB x) → (i : Int) + lsum ls ≤ most → rdL most (encL ls ++ r) i [] false = (ls ++ (rdL most r (i + lsum ls) [] false).1, (rdL most r (i + lsum ls) [] false).2)
  | [], r, i, _, _ => by simp [encL, lsum]
  | x :: ls, r, i, h, hm => by
    have e : lsum (x :: ls) = x.length + 2 + lsum ls := by unfold lsum; simp
    rw [e] at hm ⊢
    rw [encL_cons, List.append_assoc, List.cons_append, List.cons_append, rdL_line most x _ i (h x (by simp)) (by omega), rdL_enc most ls r _ (fun y hy => h y (by simp [hy])) (by omega), Nat.add_assoc]
    rfl
theorem scanP_all (kind fields fold : Int) : ∀ (ls : List (List UInt8)) (r : List (List UInt8)) (at_ : Nat) (got : List ByteArray), (∀ x ∈ ls, x ≠ []) → got ++ ls.map strL ≠ [] → scanP kind fields fold (ls ++ [] :: r) at_ got = (some (headP kind fields fold (got ++ ls.map strL), at_ + (lsum ls + 2)), got ++ ls.map strL)
  | [], r, at_, got, _, hn => by
    rw [List.map_nil, List.append_nil] at hn ⊢
    rw [List.nil_append, scanP, if_neg (by simp), if_pos (Or.inl hn)]
    rfl
  | x :: ls, r, at_, got, h, hn => by
    have e : lsum (x :: ls) = x.length + 2 + lsum ls := by unfold lsum; simp
    rw [List.cons_append, scanP, if_pos (h x (by simp)), scanP_all kind fields fold ls r _ _ (fun y hy => h y (by simp [hy])) (by simp), e]
    rw [show at_ + x.length + 2 + (lsum ls + 2) = at_ + (x.length + 2 + lsum ls + 2) by omega]
    simp only [List.append_assoc, List.map_cons, List.singleton_append]
theorem printA_enc (l : List Fd) : ∀ o : ByteArray, (printA o l).data.toList = o.data.toList ++ encL (l.map fun f => (flineB f.1 f.2).data.toList) := by
  induction l with
  | nil => intro o; simp [printA, encL]
  | cons f l ih =>
    intro o
    have : printA o (f :: l) = printA (o ++ frow f) l := rfl
    rw [this, ih, List.map_cons, encL_cons]
    unfold frow crlf
    simp
theorem printB_enc (m t r : ByteArray) (k n : Int) (l : List Fd) : (printB m t k n r l).data.toList = encL (((lineB m t k n r).data.toList :: l.map fun f => (flineB f.1 f.2).data.toList) ++ [[]]) := by
  unfold printB
  have : ∀ a b : ByteArray, (a ++ b).data.toList = a.data.toList ++ b.data.toList := fun a b => by simp
  rw [this, printA_enc, this, encL_append, encL_cons]
  unfold crlf
  simp [encL]
theorem strL_data (b : ByteArray) : strL b.data.toList = b := by unfold strL; apply ext_list; rfl
/-- A right head's first line. -/
theorem line_right {m t r : ByteArray} {k n : Int} (h : (reqR m t n r || rspR m t n r) = true) (hk : k = 0 ∨ k = 1) : noB (lineB m t k n r).data.toList ∧ (lineB m t k n r).data.toList ≠ [] ∧ firstP (if m.size ≠ 0 then 1 else 2) (lineB m t k n r) = (⟨m, t, k, n, r, []⟩, 0) := by
  rw [Bool.or_eq_true] at h
  have hnil : ∀ b : ByteArray, b.toList.isEmpty = true → b = ⟨#[]⟩ := fun b hb => by
    apply ext_list
    rw [empty_list2, decide_eq_true_eq] at hb
    exact List.eq_nil_of_length_eq_zero (by rw [hb_sz]; exact hb)
  rcases h with h | h
  · unfold reqR at h
    simp only [Bool.and_eq_true] at h
    obtain ⟨h1, h2, h3, h4⟩ := h
    have h3 : n = 0 := eq_of_beq h3
    have h4 := hnil r h4
    subst h3 h4
    have hm := hb_tok_ne h1
    refine ⟨?_, ?_, ?_⟩
    · rw [hb_data hm]
      exact noB_app (noB_tok h1) (noB_app noB_32 (noB_app (noB_vis h2) (noB_app noB_32 (noB_ver hk))))
    · rw [hb_data hm]; simp
    · rw [if_pos hm]
      unfold firstP
      rw [if_pos rfl, hb_req_of h1 h2 hk]
  · unfold rspR at h
    simp only [Bool.and_eq_true, decide_eq_true_eq] at h
    obtain ⟨h1, h2, h3, h4, h5⟩ := h
    have h1 := hnil m h1
    have h2 := hnil t h2
    subst h1 h2
    refine ⟨?_, ?_, ?_⟩
    · rw [hb_data' rfl]
      exact noB_app (noB_ver hk) (noB_app noB_32 (noB_app (noB_pad h3 h4) (noB_app noB_32 (noB_val h5))))
    · rw [hb_data' rfl]; simp
    · rw [if_neg (by decide)]
      unfold firstP
      rw [if_neg (by decide), hb_stat_of hk h3 h4 h5]
/-- A right head comes back. -/
theorem back_plain (m t r : ByteArray) (k n : Int) (l : List Fd) (h : rightP m t k n r l = true) (hl : l.length ≤ 1000) (hz : (printB m t k n r l).size ≤ 65000) :
    (pRun (if m.size ≠ 0 then 1 else 2) 1000 0 ((printB m t k n r l).data.toList ++ [120]) (pa0 65536)).2 = (printB m t k n r l).size ∧ (pRun (if m.size ≠ 0 then 1 else 2) 1000 0 ((printB m t k n r l).data.toList ++ [120]) (pa0 65536)).1.fin = true ∧ (pRun (if m.size ≠ 0 then 1 else 2) 1000 0 ((printB m t k n r l).data.toList ++ [120]) (pa0 65536)).1.e = 0 ∧ (pRun (if m.size ≠ 0 then 1 else 2) 1000 0 ((printB m t k n r l).data.toList ++ [120]) (pa0 65536)).1.hd = ⟨m, t, k, n, r, l⟩ := by
  unfold rightP at h
  simp only [Bool.and_eq_true] at h
  obtain ⟨h1, h2, h3⟩ := h
  have hk : k = 0 ∨ k = 1 := by
    rw [Bool.or_eq_true] at h2
    rcases h2 with h2 | h2
    · exact Or.inl (eq_of_beq h2)
    · exact Or.inr (eq_of_beq h2)
  obtain ⟨f1, f2, f3⟩ := line_right (k := k) h1 hk
  obtain ⟨kind, hkd⟩ : ∃ kind : Int, kind = if m.size ≠ 0 then 1 else 2 := ⟨_, rfl⟩
  rw [← hkd] at f3 ⊢
  have hkk : kind = 1 ∨ kind = 2 := by rw [hkd]; split; exact Or.inl rfl; exact Or.inr rfl
  have hp := printB_enc m t r k n l
  obtain ⟨P, hP⟩ : ∃ P, P = printB m t k n r l := ⟨_, rfl⟩
  rw [← hP] at hp hz ⊢
  have hal := hb_all l h3
  unfold allR at h3
  rw [List.all_eq_true] at h3
  obtain ⟨ls, hls⟩ : ∃ ls, ls = (lineB m t k n r).data.toList :: l.map fun f => (flineB f.1 f.2).data.toList := ⟨_, rfl⟩
  rw [← hls] at hp
  have hno : ∀ x ∈ ls, noB x ∧ x ≠ [] := by
    intro x hx
    rw [hls] at hx
    rcases List.mem_cons.1 hx with rfl | hx
    · exact ⟨f1, f2⟩
    · obtain ⟨f, hf, rfl⟩ := List.mem_map.1 hx
      exact ⟨(hb_fparse (h3 f hf)).2.2.1, (hb_fparse (h3 f hf)).2.2.2⟩
  have hst : ls.map strL = lineB m t k n r :: l.map fun f => flineB f.1 f.2 := by
    rw [hls, List.map_cons, strL_data, List.map_map]
    rfl
  have hlen : P.size = lsum ls + 2 := by
    rw [← hb_sz, hp, encL_length]
    unfold lsum
    simp
  have hH : headP kind 1000 0 (ls.map strL) = (⟨m, t, k, n, r, l⟩, 0) := by
    rw [hst]
    unfold headP
    rw [if_neg (by omega)]
    simp only
    rw [f3, if_neg (by simp), if_neg (by rw [List.length_map]; omega), hal, if_neg (by simp)]
  have hr := pRun_rd kind 1000 0 65536 (P.data.toList ++ [120]) 0 0 0 [] false [] hd0 rfl
  have h0 : (⟨⟨65536 - ((0 : Nat) : Int), 0, [], !([] : List UInt8).isEmpty || false, false, false, 0⟩, [], false, hd0, 0⟩ : PaS) = pa0 65536 := by
    unfold pa0 ln0
    simp
  rw [h0] at hr
  have hrd : (rdL 65536 (P.data.toList ++ [120]) 0 [] false).1 = ls ++ [] :: [] := by
    rw [hp, rdL_enc 65536 (ls ++ [[]]) [120] 0 (fun x hx => by
      rcases List.mem_append.1 hx with hx | hx
      · exact (hno x hx).1
      · rw [List.mem_singleton.1 hx]; intro b hb; cases hb) (by
      have : lsum (ls ++ [[]]) = lsum ls + 2 := by unfold lsum; simp
      rw [this]; omega)]
    have : lsum (ls ++ [[]]) = lsum ls + 2 := by unfold lsum; simp
    rw [this]
    show (ls ++ [[]]) ++ (rdL 65536 [120] (0 + (lsum ls + 2)) [] false).1 = _
    rw [rdL, if_neg (by omega), if_neg (by decide), if_neg (by decide), if_neg (by decide), rdL]
    simp
  rw [hrd, scanP_all kind 1000 0 ls [] 0 [] (fun x hx => (hno x hx).2) (by rw [hst]; simp), List.nil_append, hH] at hr
  obtain ⟨r1, r2, r3, r4⟩ := hr
  exact ⟨by omega, r1, r3, r2⟩
end Go.Proofs.YtmoofcmmpemdcaaGreatDoor
set_option linter.unusedSimpArgs false
set_option linter.unusedVariables false
namespace Go.Proofs.YtmoofcmmpemdcaaGreatDoor
open Go.RowKit
set_option maxRecDepth 100000 in
set_option maxHeartbeats 8000000 in
theorem hback_q0w (w : World) {A : Option Addr} {len cap : Nat} {l : List Fd} (m t r : ByteArray) (k n kind : Int) (S T : ByteArray) {mx : Int} (HM : Hid (w.cell? ⟨0, 0, none⟩ = some (.int .i64 mx))) (K0 : Nat) (hmin : min (S.size : Int) 2000 = (K0 : Int)) (hsl : ∀ W : World, (Instr.slice 9 (.string S) none (some (.int .i64 (K0 : Int))) none).run Tryz.prog W = .ok (.string T) W)
    (HSH : Hid (Calls Tryz.prog 9 #[.agg #[.string m, .string t, .int .i64 k, .int .i64 n, .string r, .slice A len cap]] (w.alloc (.cells #[.string m, .string t, .int .i64 k, .int .i64 n, .string r, .slice A len cap] 24)) fun e w' => e = .returned (.bool true) ∧ Below (w.alloc (.cells #[.string m, .string t, .int .i64 k, .int .i64 n, .string r, .slice A len cap] 24)).heap.size (w.alloc (.cells #[.string m, .string t, .int .i64 k, .int .i64 n, .string r, .slice A len cap] 24)) w'))
    (HRT : Hid (∀ W, Below w.heap.size w W → Calls Tryz.prog 26 #[.agg #[.string m, .string t, .int .i64 k, .int .i64 n, .string r, .slice A len cap]] W fun e w' => e = .returned (.bool false) ∧ Below W.heap.size W w')) (HNW2 : Hid (∀ W : World, Calls Tryz.prog 18 #[.int .i64 kind, .agg #[.int .i64 65536, .int .i64 1000, .int .i64 0, .int .i64 0, .int .i64 0]] W fun e w' => e = .returned (.pointer none) ∧ Below W.heap.size W w')) :
    Calls Tryz.prog 6 #[.agg #[.string m, .string t, .int .i64 k, .int .i64 n, .string r, .slice A len cap], .int .i64 kind, .string S] w fun e w' => e = .returned (.bool true) ∧ Below w.heap.size w w' := by
  go_enter Tryz.func6, Tryz.ntmps6
  go_wp2_with (first
    | (go_at_call 9; refine HSH.out.mono ?_; rintro e1 w1 ⟨rfl, hb⟩; have HU := Lib.hid (below_one hb); have K1 := Lib.hid ((Blk.new w #[.string m, .string t, .int .i64 k, .int .i64 n, .string r, .slice A len cap] 24).call hb); have x0 := K1.out.cell 0; have x1 := K1.out.cell 1; have x2 := K1.out.cell 2; have x3 := K1.out.cell 3; have x4 := K1.out.cell 4; have x5 := K1.out.cell 5; simp at x0 x1 x2 x3 x4 x5; clear hb HSH)
    | (go_at_call 26; refine (HRT.out _ HU.out).mono ?_; rintro e2 w2 ⟨rfl, hb⟩; have HU := Lib.hid (HU.out.trans (hb.mono HU.out.size)); have K1 := Lib.hid (K1.out.call hb); clear x0 x1 x2 x3 x4 x5; have x0 := K1.out.cell 0; have x1 := K1.out.cell 1; have x2 := K1.out.cell 2; have x3 := K1.out.cell 3; have x4 := K1.out.cell 4; have x5 := K1.out.cell 5; simp at x0 x1 x2 x3 x4 x5; clear hb HRT)
    | (go_at_call 27; refine (HPR.out _ HU.out).mono ?_; rintro e3 w3 ⟨rfl, hb⟩; have HU := Lib.hid (HU.out.trans (hb.mono HU.out.size)); have K1 := Lib.hid (K1.out.call hb); clear x0 x1 x2 x3 x4 x5; clear hb HPR)
    | (go_at_call 28; refine (wide_any _).mono ?_; rintro e4 w4 ⟨rfl, hb⟩; have HU := Lib.hid (HU.out.trans (hb.mono HU.out.size)); have K1 := Lib.hid (K1.out.call hb); (try clear x0 x1 x2 x3 x4 x5); clear hb)
    | (go_at_call 18; refine (HNW1.out _).mono ?_; rintro e5 w5 ⟨b1, g1, rfl, hb1, hg1, hp, hb⟩; have HBG1 := Lib.hid (And.intro (Nat.le_trans (Nat.succ_le_of_lt K1.out.lt) hb1) (Nat.le_trans (Nat.succ_le_of_lt K1.out.lt) hg1)); have HU := Lib.hid (HU.out.trans (hb.mono HU.out.size)); have K1 := Lib.hid (K1.out.call hb); have HP1 := Lib.hid hp; clear hb hp hb1 hg1 HNW1)
    | (go_at_call 29; refine (HFD1.out _ _ _ _ HP1.out (mx_below HM.out HU.out) HU.out K1.out HBG1.out.1 HBG1.out.2).mono ?_; rintro e6 w6 ⟨rfl, hu, hk, vl1, va1, vf1, p1, hp, hln, hdn, hdo⟩; have HU := Lib.hid hu; have K1 := Lib.hid hk; have HP1 := Lib.hid hp; have HI1 := Lib.hid (And.intro hln (And.intro hdn hdo)); clear hu hk hp hln hdn hdo HFD1)
    | (go_at_call 18; refine (HNW2.out _).mono ?_; rintro e7 w7 ⟨b2, g2, rfl, hb2, hg2, hp, hb⟩; have HBG2 := Lib.hid (And.intro (Nat.le_trans HU.out.size hb2) (Nat.le_trans HU.out.size hg2)); have HU := Lib.hid (HU.out.trans (hb.mono HU.out.size)); have HP2 := Lib.hid hp; clear hb hp hb2 hg2 HNW2)
    | (go_at_call 18; refine (HNW2.out _).mono ?_; rintro e7 w7 ⟨rfl, hb⟩; have HU := Lib.hid (HU.out.trans (hb.mono HU.out.size)); clear hb HNW2)
    | (go_at_call 29; refine (HFD2.out _ _ _ _ HP2.out (mx_below HM.out HU.out) HU.out HBG2.out.1 HBG2.out.2).mono ?_; rintro e8 w8 ⟨rfl, hu, vl2, va2, vf2, p2, hp, hln, hdn, hri⟩; have HU := Lib.hid hu; have hd := hdone_any hp; rw [hdn] at hd; have HDC2 := Lib.hid hd; have HRI := Lib.hid hri; have HHC2 := Lib.hid (hhead_any hp hln); clear hu hp hln hdn hri hd HFD2)
    | (go_at_call 22; refine HDC2.out.mono ?_; rintro e9 w9 ⟨rfl, h9⟩; subst h9; clear HDC2)
    | (go_at_call 24; have hh := HHC2.out; rw [(HRI.out (by trivial)).1] at hh; refine hh.mono ?_; clear hh; rintro eA wA ⟨fA, rfl, hoA, hb⟩; obtain ⟨pA, cA, rfl⟩ := own_slice hoA; simp only [Hd.row] at hoA ⊢; have HFA := Lib.hid hoA.flds; have HU := Lib.hid (HU.out.trans (hb.mono HU.out.size)); clear hoA hb HHC2)
    | (go_at_call 26; refine ((HRI.out (by trivial)).2 _ _ HFA.out).mono ?_; rintro eB wB ⟨rfl, hb⟩; have HU := Lib.hid (HU.out.trans (hb.mono HU.out.size)); clear hb)
    | (go_at_call 19; refine (hlives_any _ (mx_below HM.out HU.out)).mono ?_; rintro eC wC ⟨rfl, hb⟩; have HU := Lib.hid (HU.out.trans (hb.mono HU.out.size)); clear hb))
  go_ret
  exact ⟨rfl, HU.out⟩
set_option maxRecDepth 100000 in
set_option maxHeartbeats 8000000 in
theorem hback_m1w (w : World) {A : Option Addr} {len cap : Nat} {l : List Fd} (m t r : ByteArray) (k n kind : Int) (S T : ByteArray) {mx : Int} (HM : Hid (w.cell? ⟨0, 0, none⟩ = some (.int .i64 mx))) (K0 : Nat) (hmin : min (S.size : Int) 2000 = (K0 : Int)) (hsl : ∀ W : World, (Instr.slice 9 (.string S) none (some (.int .i64 (K0 : Int))) none).run Tryz.prog W = .ok (.string T) W)
    (HSH : Hid (Calls Tryz.prog 9 #[.agg #[.string m, .string t, .int .i64 k, .int .i64 n, .string r, .slice A len cap]] (w.alloc (.cells #[.string m, .string t, .int .i64 k, .int .i64 n, .string r, .slice A len cap] 24)) fun e w' => e = .returned (.bool true) ∧ Below (w.alloc (.cells #[.string m, .string t, .int .i64 k, .int .i64 n, .string r, .slice A len cap] 24)).heap.size (w.alloc (.cells #[.string m, .string t, .int .i64 k, .int .i64 n, .string r, .slice A len cap] 24)) w'))
    (HRT : Hid (∀ W, Below w.heap.size w W → Calls Tryz.prog 26 #[.agg #[.string m, .string t, .int .i64 k, .int .i64 n, .string r, .slice A len cap]] W fun e w' => e = .returned (.bool true) ∧ Below W.heap.size W w')) (P : ByteArray) (hPs : P.size ≤ 1000000) (HL : Hid (Fds w A len l ∧ l.length ≤ 1000000)) (he : m.toList.isEmpty = false) (HPR : Hid (∀ W, Below w.heap.size w W → Calls Tryz.prog 27 #[.agg #[.string m, .string t, .int .i64 k, .int .i64 n, .string r, .slice A len cap]] W fun e w' => e = .returned (.string P) ∧ Below W.heap.size W w')) (HNW1 : Hid (∀ W : World, Calls Tryz.prog 18 #[.int .i64 1, .agg #[.int .i64 65536, .int .i64 1000, .int .i64 0, .int .i64 0, .int .i64 0]] W fun e w' => ∃ b g, e = .returned (.pointer (some ⟨b, 0, none⟩)) ∧ W.heap.size ≤ b ∧ W.heap.size ≤ g ∧ PaAt w' b g (W.heap.size + 3) nilS nilS nilS 1 65536 1000 0 0 0 (pa0 65536) ∧ Below W.heap.size W w')) (HFD1 : Hid (∀ (W : World) (b g B : Nat), PaAt W b g B nilS nilS nilS 1 65536 1000 0 0 0 (pa0 65536) → W.cell? ⟨0, 0, none⟩ = some (.int .i64 mx) → Below w.heap.size w W → Blk W w.heap.size #[.string m, .string t, .int .i64 k, .int .i64 n, .string r, .slice A len cap] 24 → w.heap.size + 1 ≤ b → w.heap.size + 1 ≤ g → Calls Tryz.prog 29 #[.pointer (some ⟨b, 0, none⟩), .string (P ++ ⟨#[120]⟩)] W fun e w' => e = .returned (.tuple #[.int .i64 (P.size : Int), .int .i64 0]) ∧ Below w.heap.size w w' ∧ Blk w' w.heap.size #[.string m, .string t, .int .i64 k, .int .i64 n, .string r, .slice A len cap] 24 ∧ ∃ vl va vf p, PaAt w' b g B vl va vf 1 65536 1000 0 0 0 p ∧ p.hd.fs.length ≤ 1000000 ∧ (p.fin && p.e == 0) = true ∧ doneH p = ⟨m, t, k, n, r, l⟩)) (HNW2 : Hid (∀ W : World, Calls Tryz.prog 18 #[.int .i64 kind, .agg #[.int .i64 65536, .int .i64 1000, .int .i64 0, .int .i64 0, .int .i64 0]] W fun e w' => e = .returned (.pointer none) ∧ Below W.heap.size W w')) :
    Calls Tryz.prog 6 #[.agg #[.string m, .string t, .int .i64 k, .int .i64 n, .string r, .slice A len cap], .int .i64 kind, .string S] w fun e w' => e = .returned (.bool true) ∧ Below w.heap.size w w' := by
  go_enter Tryz.func6, Tryz.ntmps6
  go_wp2_with (first
    | (go_at_call 9; refine HSH.out.mono ?_; rintro e1 w1 ⟨rfl, hb⟩; have HU := Lib.hid (below_one hb); have K1 := Lib.hid ((Blk.new w #[.string m, .string t, .int .i64 k, .int .i64 n, .string r, .slice A len cap] 24).call hb); have x0 := K1.out.cell 0; have x1 := K1.out.cell 1; have x2 := K1.out.cell 2; have x3 := K1.out.cell 3; have x4 := K1.out.cell 4; have x5 := K1.out.cell 5; simp at x0 x1 x2 x3 x4 x5; clear hb HSH)
    | (go_at_call 26; refine (HRT.out _ HU.out).mono ?_; rintro e2 w2 ⟨rfl, hb⟩; have HU := Lib.hid (HU.out.trans (hb.mono HU.out.size)); have K1 := Lib.hid (K1.out.call hb); clear x0 x1 x2 x3 x4 x5; have x0 := K1.out.cell 0; have x1 := K1.out.cell 1; have x2 := K1.out.cell 2; have x3 := K1.out.cell 3; have x4 := K1.out.cell 4; have x5 := K1.out.cell 5; simp at x0 x1 x2 x3 x4 x5; clear hb HRT)
    | (go_at_call 27; refine (HPR.out _ HU.out).mono ?_; rintro e3 w3 ⟨rfl, hb⟩; have HU := Lib.hid (HU.out.trans (hb.mono HU.out.size)); have K1 := Lib.hid (K1.out.call hb); clear x0 x1 x2 x3 x4 x5; clear hb HPR)
    | (go_at_call 28; refine (wide_any _).mono ?_; rintro e4 w4 ⟨rfl, hb⟩; have HU := Lib.hid (HU.out.trans (hb.mono HU.out.size)); have K1 := Lib.hid (K1.out.call hb); (try clear x0 x1 x2 x3 x4 x5); clear hb)
    | (go_at_call 18; refine (HNW1.out _).mono ?_; rintro e5 w5 ⟨b1, g1, rfl, hb1, hg1, hp, hb⟩; have HBG1 := Lib.hid (And.intro (Nat.le_trans (Nat.succ_le_of_lt K1.out.lt) hb1) (Nat.le_trans (Nat.succ_le_of_lt K1.out.lt) hg1)); have HU := Lib.hid (HU.out.trans (hb.mono HU.out.size)); have K1 := Lib.hid (K1.out.call hb); have HP1 := Lib.hid hp; clear hb hp hb1 hg1 HNW1)
    | (go_at_call 29; refine (HFD1.out _ _ _ _ HP1.out (mx_below HM.out HU.out) HU.out K1.out HBG1.out.1 HBG1.out.2).mono ?_; rintro e6 w6 ⟨rfl, hu, hk, vl1, va1, vf1, p1, hp, hln, hdn, hdo⟩; have HU := Lib.hid hu; have K1 := Lib.hid hk; have HP1 := Lib.hid hp; have HI1 := Lib.hid (And.intro hln (And.intro hdn hdo)); clear hu hk hp hln hdn hdo HFD1)
    | (go_at_call 18; refine (HNW2.out _).mono ?_; rintro e7 w7 ⟨b2, g2, rfl, hb2, hg2, hp, hb⟩; have HBG2 := Lib.hid (And.intro (Nat.le_trans HU.out.size hb2) (Nat.le_trans HU.out.size hg2)); have HU := Lib.hid (HU.out.trans (hb.mono HU.out.size)); have HP2 := Lib.hid hp; clear hb hp hb2 hg2 HNW2)
    | (go_at_call 18; refine (HNW2.out _).mono ?_; rintro e7 w7 ⟨rfl, hb⟩; have HU := Lib.hid (HU.out.trans (hb.mono HU.out.size)); clear hb HNW2)
    | (go_at_call 29; refine (HFD2.out _ _ _ _ HP2.out (mx_below HM.out HU.out) HU.out HBG2.out.1 HBG2.out.2).mono ?_; rintro e8 w8 ⟨rfl, hu, vl2, va2, vf2, p2, hp, hln, hdn, hri⟩; have HU := Lib.hid hu; have hd := hdone_any hp; rw [hdn] at hd; have HDC2 := Lib.hid hd; have HRI := Lib.hid hri; have HHC2 := Lib.hid (hhead_any hp hln); clear hu hp hln hdn hri hd HFD2)
    | (go_at_call 22; refine HDC2.out.mono ?_; rintro e9 w9 ⟨rfl, h9⟩; subst h9; clear HDC2)
    | (go_at_call 24; have hh := HHC2.out; rw [(HRI.out (by trivial)).1] at hh; refine hh.mono ?_; clear hh; rintro eA wA ⟨fA, rfl, hoA, hb⟩; obtain ⟨pA, cA, rfl⟩ := own_slice hoA; simp only [Hd.row] at hoA ⊢; have HFA := Lib.hid hoA.flds; have HU := Lib.hid (HU.out.trans (hb.mono HU.out.size)); clear hoA hb HHC2)
    | (go_at_call 26; refine ((HRI.out (by trivial)).2 _ _ HFA.out).mono ?_; rintro eB wB ⟨rfl, hb⟩; have HU := Lib.hid (HU.out.trans (hb.mono HU.out.size)); clear hb)
    | (go_at_call 19; refine (hlives_any _ (mx_below HM.out HU.out)).mono ?_; rintro eC wC ⟨rfl, hb⟩; have HU := Lib.hid (HU.out.trans (hb.mono HU.out.size)); clear hb))
  refine wp_region_at (S := fun v => Blk v w.heap.size #[.string m, .string t, .int .i64 k, .int .i64 n, .string r, .slice A len cap] 24) (by kernel_rfl) ?_
  intro V0 hV0
  have h0 := K1.out.drew
  have hp0 := HP1.out.drew
  have hu0 := HU.out.drew
  rw [← hV0] at h0 hp0 hu0
  have hd0 := hdone_any hp0
  rw [HI1.out.2.1] at hd0
  have HDC := Lib.hid hd0
  have hh0 := hhead_any hp0 HI1.out.1
  rw [HI1.out.2.2] at hh0
  have HHC := Lib.hid hh0
  have HU0 := Lib.hid hu0
  have HSM := Lib.hid (fun (W : World) (f f' : Value) (h1 : Flds W f l) (h2 : Flds W f' l) => hsame_self ⟨m, t, k, n, r, l⟩ f f' W h1 h2 HL.out.2)
  simp only [Hd.row] at HSM
  clear hV0 hp0 hu0 hd0 hh0 HP1 HI1 HU K1 HBG1
  refine wpAnyH_take (i := 0) (v := .int .i64 (P.size : Int)) rfl (by kernel_rfl) (by kernel_rfl) (by kernel_rfl) (fun _ _ _ h => h) (Or.inl ⟨by kernel_rfl, ?hy1⟩) h0 ?rest1
  case hy1 =>
    intro v hv
    clear hv
    go_simp
  (try simp only [Act.put, List.setIfInBounds_toArray, List.set_cons_zero, List.set_cons_succ])
  refine wpAnyH_take (i := 1) (v := .string P) rfl (by kernel_rfl) (by kernel_rfl) (by kernel_rfl) (fun _ _ _ h => h) (Or.inl ⟨by kernel_rfl, ?hy2⟩) h0 ?rest2
  case hy2 =>
    intro v hv
    clear hv
    go_simp
  (try simp only [Act.put, List.setIfInBounds_toArray, List.set_cons_zero, List.set_cons_succ])
  refine wpAnyH_take (i := 2) (v := .int .i64 (P.size : Int)) rfl (by kernel_rfl) (by kernel_rfl) (by kernel_rfl) (fun _ _ _ h => h) (Or.inl ⟨by kernel_rfl, ?hy3⟩) h0 ?rest3
  case hy3 =>
    intro v hv
    clear hv
    go_simp
  (try simp only [Act.put, List.setIfInBounds_toArray, List.set_cons_zero, List.set_cons_succ])
  refine wpAnyH_take (i := 3) (v := .bool false) rfl (by kernel_rfl) (by kernel_rfl) (by kernel_rfl) (fun _ _ _ h => h) (Or.inl ⟨by kernel_rfl, ?hy4⟩) h0 ?rest4
  case hy4 =>
    intro v hv
    clear hv
    go_simp
  (try simp only [Act.put, List.setIfInBounds_toArray, List.set_cons_zero, List.set_cons_succ])
  refine wpAnyH_take (i := 4) (v := .bool false) rfl (by kernel_rfl) (by kernel_rfl) (by kernel_rfl) (fun _ _ _ h => h) (Or.inl ⟨by kernel_rfl, ?hy5⟩) h0 ?rest5
  case hy5 =>
    intro v hv
    clear hv
    go_simp
  (try simp only [Act.put, List.setIfInBounds_toArray, List.set_cons_zero, List.set_cons_succ])
  refine wpAnyH_take (i := 5) (v := .int .i64 0) rfl (by kernel_rfl) (by kernel_rfl) (by kernel_rfl) (fun _ _ _ h => h) (Or.inl ⟨by kernel_rfl, ?hy6⟩) h0 ?rest6
  case hy6 =>
    intro v hv
    clear hv
    go_simp
  (try simp only [Act.put, List.setIfInBounds_toArray, List.set_cons_zero, List.set_cons_succ])
  refine wpAnyH_take (i := 6) (v := .bool false) rfl (by kernel_rfl) (by kernel_rfl) (by kernel_rfl) (fun _ _ _ h => h) (Or.inl ⟨by kernel_rfl, ?hy7⟩) h0 ?rest7
  case hy7 =>
    intro v hv
    clear hv
    go_simp
  (try simp only [Act.put, List.setIfInBounds_toArray, List.set_cons_zero, List.set_cons_succ])
  refine wpAnyH_take (i := 7) (v := .bool false) rfl (by kernel_rfl) (by kernel_rfl) (by kernel_rfl) (fun _ _ _ h => h) (Or.inl ⟨by kernel_rfl, ?hy8⟩) h0 ?rest8
  case hy8 =>
    intro v hv
    clear hv
    go_simp
  (try simp only [Act.put, List.setIfInBounds_toArray, List.set_cons_zero, List.set_cons_succ])
  refine wpAnyH_take (i := 8) (v := .bool false) rfl (by kernel_rfl) (by kernel_rfl) (by kernel_rfl) (fun _ _ _ h => h) (Or.inl ⟨by kernel_rfl, ?hy9⟩) h0 ?rest9
  case hy9 =>
    intro v hv
    clear hv
    go_simp
  (try simp only [Act.put, List.setIfInBounds_toArray, List.set_cons_zero, List.set_cons_succ])
  refine wpAnyH_take (i := 9) (v := .pointer (some ⟨b1, 0, none⟩)) rfl (by kernel_rfl) (by kernel_rfl) (by kernel_rfl) (fun _ _ _ h => h) (Or.inl ⟨by kernel_rfl, ?hy10⟩) h0 ?rest10
  case hy10 =>
    intro v hv
    clear hv
    go_simp
  (try simp only [Act.put, List.setIfInBounds_toArray, List.set_cons_zero, List.set_cons_succ])
  refine wpAnyH_ready (rs := [10]) (by kernel_rfl) (by simp) ?_
  refine AllReadyH.cons rfl (fun K hK => ?_) AllReadyH.nil
  go_simp
  refine HDC.out.mono ?_
  rintro e V1 ⟨rfl, h1⟩
  subst h1
  refine hK _ _ h0 (fun _ => ?_)
  clear hK K HDC
  (try simp only [Act.put, List.setIfInBounds_toArray, List.set_cons_zero, List.set_cons_succ])
  refine wpAnyH_take (i := 11) (v := .bool false) rfl (by kernel_rfl) (by kernel_rfl) (by kernel_rfl) (fun _ _ _ h => h) (Or.inl ⟨by kernel_rfl, ?hy11⟩) h0 ?rest11
  case hy11 =>
    intro v hv
    clear hv
    go_simp
  (try simp only [Act.put, List.setIfInBounds_toArray, List.set_cons_zero, List.set_cons_succ])
  refine wpAnyH_take (i := 12) (v := .bool false) rfl (by kernel_rfl) (by kernel_rfl) (by kernel_rfl) (fun _ _ _ h => h) (Or.inl ⟨by kernel_rfl, ?hy12⟩) h0 ?rest12
  case hy12 =>
    intro v hv
    clear hv
    go_simp
  (try simp only [Act.put, List.setIfInBounds_toArray, List.set_cons_zero, List.set_cons_succ])
  refine wpAnyH_take (i := 13) (v := .bool false) rfl (by kernel_rfl) (by kernel_rfl) (by kernel_rfl) (fun _ _ _ h => h) (Or.inl ⟨by kernel_rfl, ?hy13⟩) h0 ?rest13
  case hy13 =>
    intro v hv
    clear hv
    go_simp
  (try simp only [Act.put, List.setIfInBounds_toArray, List.set_cons_zero, List.set_cons_succ])
  refine wpAnyH_take (i := 14) (v := .pointer (some ⟨b1, 0, none⟩)) rfl (by kernel_rfl) (by kernel_rfl) (by kernel_rfl) (fun _ _ _ h => h) (Or.inl ⟨by kernel_rfl, ?hy14⟩) h0 ?rest14
  case hy14 =>
    intro v hv
    clear hv
    go_simp
  (try simp only [Act.put, List.setIfInBounds_toArray, List.set_cons_zero, List.set_cons_succ])
  refine wpAnyH_take (i := 16) (v := .agg #[.string m, .string t, .int .i64 k, .int .i64 n, .string r, .slice A len cap]) rfl (by kernel_rfl) (by kernel_rfl) (by kernel_rfl) (fun _ _ _ h => h) (Or.inl ⟨by kernel_rfl, ?hy15⟩) h0 ?rest15
  case hy15 =>
    intro v hv
    have k0 := hv.cell 0
    have k1 := hv.cell 1
    have k2 := hv.cell 2
    have k3 := hv.cell 3
    have k4 := hv.cell 4
    have k5 := hv.cell 5
    simp at k0 k1 k2 k3 k4 k5
    clear hv
    go_simp
  (try simp only [Act.put, List.setIfInBounds_toArray, List.set_cons_zero, List.set_cons_succ])
  refine wpAnyH_ready (rs := [15]) (by kernel_rfl) (by simp) ?_
  refine AllReadyH.cons rfl (fun K hK => ?_) AllReadyH.nil
  go_simp
  refine HHC.out.mono ?_
  rintro e V1 ⟨f6, rfl, ho6, hb6⟩
  obtain ⟨p6, c6, rfl⟩ := own_slice ho6
  simp only [Hd.row] at ho6 ⊢
  have h1 := h0.call hb6
  have HF6 := Lib.hid ho6.flds
  have HU1 := Lib.hid (HU0.out.trans (hb6.mono HU0.out.size))
  have HF1 := Lib.hid ((flds_of (cap := cap) HL.out.1).below HU1.out)
  clear ho6 hb6 h0 HHC
  refine hK _ _ h1 (fun _ => ?_)
  clear hK K
  (try simp only [Act.put, List.setIfInBounds_toArray, List.set_cons_zero, List.set_cons_succ])
  refine wpAnyH_ready (rs := [17]) (by kernel_rfl) (by simp) ?_
  refine AllReadyH.cons rfl (fun K hK => ?_) AllReadyH.nil
  go_simp
  refine (HSM.out _ _ _ HF6.out HF1.out).mono ?_
  rintro e V2 ⟨rfl, hb7⟩
  have h2 := h1.call hb7
  have HU := Lib.hid (HU1.out.trans (hb7.mono HU1.out.size))
  clear hb7 h1 HSM
  refine hK _ _ h2 (fun _ => ?_)
  clear hK K
  (try simp only [Act.put, List.setIfInBounds_toArray, List.set_cons_zero, List.set_cons_succ])
  refine wpAnyH_take (i := 18) (v := .bool false) rfl (by kernel_rfl) (by kernel_rfl) (by kernel_rfl) (fun _ _ _ h => h) (Or.inl ⟨by kernel_rfl, ?hy16⟩) h2 ?rest16
  case hy16 =>
    intro v hv
    clear hv
    go_simp
  (try simp only [Act.put, List.setIfInBounds_toArray, List.set_cons_zero, List.set_cons_succ])
  refine wpAnyH_take (i := 19) (v := .bool false) rfl (by kernel_rfl) (by kernel_rfl) (by kernel_rfl) (fun _ _ _ h => h) (Or.inl ⟨by kernel_rfl, ?hy17⟩) h2 ?rest17
  case hy17 =>
    intro v hv
    clear hv
    go_simp
  (try simp only [Act.put, List.setIfInBounds_toArray, List.set_cons_zero, List.set_cons_succ])
  refine wpAnyH_done (by kernel_rfl) ?_ _
  have K1 := Lib.hid h2
  clear h2
  go_wp2_with (first
    | (go_at_call 9; refine HSH.out.mono ?_; rintro e1 w1 ⟨rfl, hb⟩; have HU := Lib.hid (below_one hb); have K1 := Lib.hid ((Blk.new w #[.string m, .string t, .int .i64 k, .int .i64 n, .string r, .slice A len cap] 24).call hb); have x0 := K1.out.cell 0; have x1 := K1.out.cell 1; have x2 := K1.out.cell 2; have x3 := K1.out.cell 3; have x4 := K1.out.cell 4; have x5 := K1.out.cell 5; simp at x0 x1 x2 x3 x4 x5; clear hb HSH)
    | (go_at_call 26; refine (HRT.out _ HU.out).mono ?_; rintro e2 w2 ⟨rfl, hb⟩; have HU := Lib.hid (HU.out.trans (hb.mono HU.out.size)); have K1 := Lib.hid (K1.out.call hb); clear x0 x1 x2 x3 x4 x5; have x0 := K1.out.cell 0; have x1 := K1.out.cell 1; have x2 := K1.out.cell 2; have x3 := K1.out.cell 3; have x4 := K1.out.cell 4; have x5 := K1.out.cell 5; simp at x0 x1 x2 x3 x4 x5; clear hb HRT)
    | (go_at_call 27; refine (HPR.out _ HU.out).mono ?_; rintro e3 w3 ⟨rfl, hb⟩; have HU := Lib.hid (HU.out.trans (hb.mono HU.out.size)); have K1 := Lib.hid (K1.out.call hb); clear x0 x1 x2 x3 x4 x5; clear hb HPR)
    | (go_at_call 28; refine (wide_any _).mono ?_; rintro e4 w4 ⟨rfl, hb⟩; have HU := Lib.hid (HU.out.trans (hb.mono HU.out.size)); have K1 := Lib.hid (K1.out.call hb); (try clear x0 x1 x2 x3 x4 x5); clear hb)
    | (go_at_call 18; refine (HNW1.out _).mono ?_; rintro e5 w5 ⟨b1, g1, rfl, hb1, hg1, hp, hb⟩; have HBG1 := Lib.hid (And.intro (Nat.le_trans (Nat.succ_le_of_lt K1.out.lt) hb1) (Nat.le_trans (Nat.succ_le_of_lt K1.out.lt) hg1)); have HU := Lib.hid (HU.out.trans (hb.mono HU.out.size)); have K1 := Lib.hid (K1.out.call hb); have HP1 := Lib.hid hp; clear hb hp hb1 hg1 HNW1)
    | (go_at_call 29; refine (HFD1.out _ _ _ _ HP1.out (mx_below HM.out HU.out) HU.out K1.out HBG1.out.1 HBG1.out.2).mono ?_; rintro e6 w6 ⟨rfl, hu, hk, vl1, va1, vf1, p1, hp, hln, hdn, hdo⟩; have HU := Lib.hid hu; have K1 := Lib.hid hk; have HP1 := Lib.hid hp; have HI1 := Lib.hid (And.intro hln (And.intro hdn hdo)); clear hu hk hp hln hdn hdo HFD1)
    | (go_at_call 18; refine (HNW2.out _).mono ?_; rintro e7 w7 ⟨b2, g2, rfl, hb2, hg2, hp, hb⟩; have HBG2 := Lib.hid (And.intro (Nat.le_trans HU.out.size hb2) (Nat.le_trans HU.out.size hg2)); have HU := Lib.hid (HU.out.trans (hb.mono HU.out.size)); have HP2 := Lib.hid hp; clear hb hp hb2 hg2 HNW2)
    | (go_at_call 18; refine (HNW2.out _).mono ?_; rintro e7 w7 ⟨rfl, hb⟩; have HU := Lib.hid (HU.out.trans (hb.mono HU.out.size)); clear hb HNW2)
    | (go_at_call 29; refine (HFD2.out _ _ _ _ HP2.out (mx_below HM.out HU.out) HU.out HBG2.out.1 HBG2.out.2).mono ?_; rintro e8 w8 ⟨rfl, hu, vl2, va2, vf2, p2, hp, hln, hdn, hri⟩; have HU := Lib.hid hu; have hd := hdone_any hp; rw [hdn] at hd; have HDC2 := Lib.hid hd; have HRI := Lib.hid hri; have HHC2 := Lib.hid (hhead_any hp hln); clear hu hp hln hdn hri hd HFD2)
    | (go_at_call 22; refine HDC2.out.mono ?_; rintro e9 w9 ⟨rfl, h9⟩; subst h9; clear HDC2)
    | (go_at_call 24; have hh := HHC2.out; rw [(HRI.out (by trivial)).1] at hh; refine hh.mono ?_; clear hh; rintro eA wA ⟨fA, rfl, hoA, hb⟩; obtain ⟨pA, cA, rfl⟩ := own_slice hoA; simp only [Hd.row] at hoA ⊢; have HFA := Lib.hid hoA.flds; have HU := Lib.hid (HU.out.trans (hb.mono HU.out.size)); clear hoA hb HHC2)
    | (go_at_call 26; refine ((HRI.out (by trivial)).2 _ _ HFA.out).mono ?_; rintro eB wB ⟨rfl, hb⟩; have HU := Lib.hid (HU.out.trans (hb.mono HU.out.size)); clear hb)
    | (go_at_call 19; refine (hlives_any _ (mx_below HM.out HU.out)).mono ?_; rintro eC wC ⟨rfl, hb⟩; have HU := Lib.hid (HU.out.trans (hb.mono HU.out.size)); clear hb))
  go_ret
  exact ⟨rfl, HU.out⟩
set_option maxRecDepth 100000 in
set_option maxHeartbeats 8000000 in
theorem hback_m2w (w : World) {A : Option Addr} {len cap : Nat} {l : List Fd} (m t r : ByteArray) (k n kind : Int) (S T : ByteArray) {mx : Int} (HM : Hid (w.cell? ⟨0, 0, none⟩ = some (.int .i64 mx))) (K0 : Nat) (hmin : min (S.size : Int) 2000 = (K0 : Int)) (hsl : ∀ W : World, (Instr.slice 9 (.string S) none (some (.int .i64 (K0 : Int))) none).run Tryz.prog W = .ok (.string T) W)
    (HSH : Hid (Calls Tryz.prog 9 #[.agg #[.string m, .string t, .int .i64 k, .int .i64 n, .string r, .slice A len cap]] (w.alloc (.cells #[.string m, .string t, .int .i64 k, .int .i64 n, .string r, .slice A len cap] 24)) fun e w' => e = .returned (.bool true) ∧ Below (w.alloc (.cells #[.string m, .string t, .int .i64 k, .int .i64 n, .string r, .slice A len cap] 24)).heap.size (w.alloc (.cells #[.string m, .string t, .int .i64 k, .int .i64 n, .string r, .slice A len cap] 24)) w'))
    (HRT : Hid (∀ W, Below w.heap.size w W → Calls Tryz.prog 26 #[.agg #[.string m, .string t, .int .i64 k, .int .i64 n, .string r, .slice A len cap]] W fun e w' => e = .returned (.bool true) ∧ Below W.heap.size W w')) (P : ByteArray) (hPs : P.size ≤ 1000000) (HL : Hid (Fds w A len l ∧ l.length ≤ 1000000)) (he : m.toList.isEmpty = true) (HPR : Hid (∀ W, Below w.heap.size w W → Calls Tryz.prog 27 #[.agg #[.string m, .string t, .int .i64 k, .int .i64 n, .string r, .slice A len cap]] W fun e w' => e = .returned (.string P) ∧ Below W.heap.size W w')) (HNW1 : Hid (∀ W : World, Calls Tryz.prog 18 #[.int .i64 2, .agg #[.int .i64 65536, .int .i64 1000, .int .i64 0, .int .i64 0, .int .i64 0]] W fun e w' => ∃ b g, e = .returned (.pointer (some ⟨b, 0, none⟩)) ∧ W.heap.size ≤ b ∧ W.heap.size ≤ g ∧ PaAt w' b g (W.heap.size + 3) nilS nilS nilS 2 65536 1000 0 0 0 (pa0 65536) ∧ Below W.heap.size W w')) (HFD1 : Hid (∀ (W : World) (b g B : Nat), PaAt W b g B nilS nilS nilS 2 65536 1000 0 0 0 (pa0 65536) → W.cell? ⟨0, 0, none⟩ = some (.int .i64 mx) → Below w.heap.size w W → Blk W w.heap.size #[.string m, .string t, .int .i64 k, .int .i64 n, .string r, .slice A len cap] 24 → w.heap.size + 1 ≤ b → w.heap.size + 1 ≤ g → Calls Tryz.prog 29 #[.pointer (some ⟨b, 0, none⟩), .string (P ++ ⟨#[120]⟩)] W fun e w' => e = .returned (.tuple #[.int .i64 (P.size : Int), .int .i64 0]) ∧ Below w.heap.size w w' ∧ Blk w' w.heap.size #[.string m, .string t, .int .i64 k, .int .i64 n, .string r, .slice A len cap] 24 ∧ ∃ vl va vf p, PaAt w' b g B vl va vf 2 65536 1000 0 0 0 p ∧ p.hd.fs.length ≤ 1000000 ∧ (p.fin && p.e == 0) = true ∧ doneH p = ⟨m, t, k, n, r, l⟩)) (HNW2 : Hid (∀ W : World, Calls Tryz.prog 18 #[.int .i64 kind, .agg #[.int .i64 65536, .int .i64 1000, .int .i64 0, .int .i64 0, .int .i64 0]] W fun e w' => e = .returned (.pointer none) ∧ Below W.heap.size W w')) :
    Calls Tryz.prog 6 #[.agg #[.string m, .string t, .int .i64 k, .int .i64 n, .string r, .slice A len cap], .int .i64 kind, .string S] w fun e w' => e = .returned (.bool true) ∧ Below w.heap.size w w' := by
  go_enter Tryz.func6, Tryz.ntmps6
  go_wp2_with (first
    | (go_at_call 9; refine HSH.out.mono ?_; rintro e1 w1 ⟨rfl, hb⟩; have HU := Lib.hid (below_one hb); have K1 := Lib.hid ((Blk.new w #[.string m, .string t, .int .i64 k, .int .i64 n, .string r, .slice A len cap] 24).call hb); have x0 := K1.out.cell 0; have x1 := K1.out.cell 1; have x2 := K1.out.cell 2; have x3 := K1.out.cell 3; have x4 := K1.out.cell 4; have x5 := K1.out.cell 5; simp at x0 x1 x2 x3 x4 x5; clear hb HSH)
    | (go_at_call 26; refine (HRT.out _ HU.out).mono ?_; rintro e2 w2 ⟨rfl, hb⟩; have HU := Lib.hid (HU.out.trans (hb.mono HU.out.size)); have K1 := Lib.hid (K1.out.call hb); clear x0 x1 x2 x3 x4 x5; have x0 := K1.out.cell 0; have x1 := K1.out.cell 1; have x2 := K1.out.cell 2; have x3 := K1.out.cell 3; have x4 := K1.out.cell 4; have x5 := K1.out.cell 5; simp at x0 x1 x2 x3 x4 x5; clear hb HRT)
    | (go_at_call 27; refine (HPR.out _ HU.out).mono ?_; rintro e3 w3 ⟨rfl, hb⟩; have HU := Lib.hid (HU.out.trans (hb.mono HU.out.size)); have K1 := Lib.hid (K1.out.call hb); clear x0 x1 x2 x3 x4 x5; clear hb HPR)
    | (go_at_call 28; refine (wide_any _).mono ?_; rintro e4 w4 ⟨rfl, hb⟩; have HU := Lib.hid (HU.out.trans (hb.mono HU.out.size)); have K1 := Lib.hid (K1.out.call hb); (try clear x0 x1 x2 x3 x4 x5); clear hb)
    | (go_at_call 18; refine (HNW1.out _).mono ?_; rintro e5 w5 ⟨b1, g1, rfl, hb1, hg1, hp, hb⟩; have HBG1 := Lib.hid (And.intro (Nat.le_trans (Nat.succ_le_of_lt K1.out.lt) hb1) (Nat.le_trans (Nat.succ_le_of_lt K1.out.lt) hg1)); have HU := Lib.hid (HU.out.trans (hb.mono HU.out.size)); have K1 := Lib.hid (K1.out.call hb); have HP1 := Lib.hid hp; clear hb hp hb1 hg1 HNW1)
    | (go_at_call 29; refine (HFD1.out _ _ _ _ HP1.out (mx_below HM.out HU.out) HU.out K1.out HBG1.out.1 HBG1.out.2).mono ?_; rintro e6 w6 ⟨rfl, hu, hk, vl1, va1, vf1, p1, hp, hln, hdn, hdo⟩; have HU := Lib.hid hu; have K1 := Lib.hid hk; have HP1 := Lib.hid hp; have HI1 := Lib.hid (And.intro hln (And.intro hdn hdo)); clear hu hk hp hln hdn hdo HFD1)
    | (go_at_call 18; refine (HNW2.out _).mono ?_; rintro e7 w7 ⟨b2, g2, rfl, hb2, hg2, hp, hb⟩; have HBG2 := Lib.hid (And.intro (Nat.le_trans HU.out.size hb2) (Nat.le_trans HU.out.size hg2)); have HU := Lib.hid (HU.out.trans (hb.mono HU.out.size)); have HP2 := Lib.hid hp; clear hb hp hb2 hg2 HNW2)
    | (go_at_call 18; refine (HNW2.out _).mono ?_; rintro e7 w7 ⟨rfl, hb⟩; have HU := Lib.hid (HU.out.trans (hb.mono HU.out.size)); clear hb HNW2)
    | (go_at_call 29; refine (HFD2.out _ _ _ _ HP2.out (mx_below HM.out HU.out) HU.out HBG2.out.1 HBG2.out.2).mono ?_; rintro e8 w8 ⟨rfl, hu, vl2, va2, vf2, p2, hp, hln, hdn, hri⟩; have HU := Lib.hid hu; have hd := hdone_any hp; rw [hdn] at hd; have HDC2 := Lib.hid hd; have HRI := Lib.hid hri; have HHC2 := Lib.hid (hhead_any hp hln); clear hu hp hln hdn hri hd HFD2)
    | (go_at_call 22; refine HDC2.out.mono ?_; rintro e9 w9 ⟨rfl, h9⟩; subst h9; clear HDC2)
    | (go_at_call 24; have hh := HHC2.out; rw [(HRI.out (by trivial)).1] at hh; refine hh.mono ?_; clear hh; rintro eA wA ⟨fA, rfl, hoA, hb⟩; obtain ⟨pA, cA, rfl⟩ := own_slice hoA; simp only [Hd.row] at hoA ⊢; have HFA := Lib.hid hoA.flds; have HU := Lib.hid (HU.out.trans (hb.mono HU.out.size)); clear hoA hb HHC2)
    | (go_at_call 26; refine ((HRI.out (by trivial)).2 _ _ HFA.out).mono ?_; rintro eB wB ⟨rfl, hb⟩; have HU := Lib.hid (HU.out.trans (hb.mono HU.out.size)); clear hb)
    | (go_at_call 19; refine (hlives_any _ (mx_below HM.out HU.out)).mono ?_; rintro eC wC ⟨rfl, hb⟩; have HU := Lib.hid (HU.out.trans (hb.mono HU.out.size)); clear hb))
  refine wp_region_at (S := fun v => Blk v w.heap.size #[.string m, .string t, .int .i64 k, .int .i64 n, .string r, .slice A len cap] 24) (by kernel_rfl) ?_
  intro V0 hV0
  have h0 := K1.out.drew
  have hp0 := HP1.out.drew
  have hu0 := HU.out.drew
  rw [← hV0] at h0 hp0 hu0
  have hd0 := hdone_any hp0
  rw [HI1.out.2.1] at hd0
  have HDC := Lib.hid hd0
  have hh0 := hhead_any hp0 HI1.out.1
  rw [HI1.out.2.2] at hh0
  have HHC := Lib.hid hh0
  have HU0 := Lib.hid hu0
  have HSM := Lib.hid (fun (W : World) (f f' : Value) (h1 : Flds W f l) (h2 : Flds W f' l) => hsame_self ⟨m, t, k, n, r, l⟩ f f' W h1 h2 HL.out.2)
  simp only [Hd.row] at HSM
  clear hV0 hp0 hu0 hd0 hh0 HP1 HI1 HU K1 HBG1
  refine wpAnyH_take (i := 0) (v := .int .i64 (P.size : Int)) rfl (by kernel_rfl) (by kernel_rfl) (by kernel_rfl) (fun _ _ _ h => h) (Or.inl ⟨by kernel_rfl, ?hy18⟩) h0 ?rest18
  case hy18 =>
    intro v hv
    clear hv
    go_simp
  (try simp only [Act.put, List.setIfInBounds_toArray, List.set_cons_zero, List.set_cons_succ])
  refine wpAnyH_take (i := 1) (v := .string P) rfl (by kernel_rfl) (by kernel_rfl) (by kernel_rfl) (fun _ _ _ h => h) (Or.inl ⟨by kernel_rfl, ?hy19⟩) h0 ?rest19
  case hy19 =>
    intro v hv
    clear hv
    go_simp
  (try simp only [Act.put, List.setIfInBounds_toArray, List.set_cons_zero, List.set_cons_succ])
  refine wpAnyH_take (i := 2) (v := .int .i64 (P.size : Int)) rfl (by kernel_rfl) (by kernel_rfl) (by kernel_rfl) (fun _ _ _ h => h) (Or.inl ⟨by kernel_rfl, ?hy20⟩) h0 ?rest20
  case hy20 =>
    intro v hv
    clear hv
    go_simp
  (try simp only [Act.put, List.setIfInBounds_toArray, List.set_cons_zero, List.set_cons_succ])
  refine wpAnyH_take (i := 3) (v := .bool false) rfl (by kernel_rfl) (by kernel_rfl) (by kernel_rfl) (fun _ _ _ h => h) (Or.inl ⟨by kernel_rfl, ?hy21⟩) h0 ?rest21
  case hy21 =>
    intro v hv
    clear hv
    go_simp
  (try simp only [Act.put, List.setIfInBounds_toArray, List.set_cons_zero, List.set_cons_succ])
  refine wpAnyH_take (i := 4) (v := .bool false) rfl (by kernel_rfl) (by kernel_rfl) (by kernel_rfl) (fun _ _ _ h => h) (Or.inl ⟨by kernel_rfl, ?hy22⟩) h0 ?rest22
  case hy22 =>
    intro v hv
    clear hv
    go_simp
  (try simp only [Act.put, List.setIfInBounds_toArray, List.set_cons_zero, List.set_cons_succ])
  refine wpAnyH_take (i := 5) (v := .int .i64 0) rfl (by kernel_rfl) (by kernel_rfl) (by kernel_rfl) (fun _ _ _ h => h) (Or.inl ⟨by kernel_rfl, ?hy23⟩) h0 ?rest23
  case hy23 =>
    intro v hv
    clear hv
    go_simp
  (try simp only [Act.put, List.setIfInBounds_toArray, List.set_cons_zero, List.set_cons_succ])
  refine wpAnyH_take (i := 6) (v := .bool false) rfl (by kernel_rfl) (by kernel_rfl) (by kernel_rfl) (fun _ _ _ h => h) (Or.inl ⟨by kernel_rfl, ?hy24⟩) h0 ?rest24
  case hy24 =>
    intro v hv
    clear hv
    go_simp
  (try simp only [Act.put, List.setIfInBounds_toArray, List.set_cons_zero, List.set_cons_succ])
  refine wpAnyH_take (i := 7) (v := .bool false) rfl (by kernel_rfl) (by kernel_rfl) (by kernel_rfl) (fun _ _ _ h => h) (Or.inl ⟨by kernel_rfl, ?hy25⟩) h0 ?rest25
  case hy25 =>
    intro v hv
    clear hv
    go_simp
  (try simp only [Act.put, List.setIfInBounds_toArray, List.set_cons_zero, List.set_cons_succ])
  refine wpAnyH_take (i := 8) (v := .bool false) rfl (by kernel_rfl) (by kernel_rfl) (by kernel_rfl) (fun _ _ _ h => h) (Or.inl ⟨by kernel_rfl, ?hy26⟩) h0 ?rest26
  case hy26 =>
    intro v hv
    clear hv
    go_simp
  (try simp only [Act.put, List.setIfInBounds_toArray, List.set_cons_zero, List.set_cons_succ])
  refine wpAnyH_take (i := 9) (v := .pointer (some ⟨b1, 0, none⟩)) rfl (by kernel_rfl) (by kernel_rfl) (by kernel_rfl) (fun _ _ _ h => h) (Or.inl ⟨by kernel_rfl, ?hy27⟩) h0 ?rest27
  case hy27 =>
    intro v hv
    clear hv
    go_simp
  (try simp only [Act.put, List.setIfInBounds_toArray, List.set_cons_zero, List.set_cons_succ])
  refine wpAnyH_ready (rs := [10]) (by kernel_rfl) (by simp) ?_
  refine AllReadyH.cons rfl (fun K hK => ?_) AllReadyH.nil
  go_simp
  refine HDC.out.mono ?_
  rintro e V1 ⟨rfl, h1⟩
  subst h1
  refine hK _ _ h0 (fun _ => ?_)
  clear hK K HDC
  (try simp only [Act.put, List.setIfInBounds_toArray, List.set_cons_zero, List.set_cons_succ])
  refine wpAnyH_take (i := 11) (v := .bool false) rfl (by kernel_rfl) (by kernel_rfl) (by kernel_rfl) (fun _ _ _ h => h) (Or.inl ⟨by kernel_rfl, ?hy28⟩) h0 ?rest28
  case hy28 =>
    intro v hv
    clear hv
    go_simp
  (try simp only [Act.put, List.setIfInBounds_toArray, List.set_cons_zero, List.set_cons_succ])
  refine wpAnyH_take (i := 12) (v := .bool false) rfl (by kernel_rfl) (by kernel_rfl) (by kernel_rfl) (fun _ _ _ h => h) (Or.inl ⟨by kernel_rfl, ?hy29⟩) h0 ?rest29
  case hy29 =>
    intro v hv
    clear hv
    go_simp
  (try simp only [Act.put, List.setIfInBounds_toArray, List.set_cons_zero, List.set_cons_succ])
  refine wpAnyH_take (i := 13) (v := .bool false) rfl (by kernel_rfl) (by kernel_rfl) (by kernel_rfl) (fun _ _ _ h => h) (Or.inl ⟨by kernel_rfl, ?hy30⟩) h0 ?rest30
  case hy30 =>
    intro v hv
    clear hv
    go_simp
  (try simp only [Act.put, List.setIfInBounds_toArray, List.set_cons_zero, List.set_cons_succ])
  refine wpAnyH_take (i := 14) (v := .pointer (some ⟨b1, 0, none⟩)) rfl (by kernel_rfl) (by kernel_rfl) (by kernel_rfl) (fun _ _ _ h => h) (Or.inl ⟨by kernel_rfl, ?hy31⟩) h0 ?rest31
  case hy31 =>
    intro v hv
    clear hv
    go_simp
  (try simp only [Act.put, List.setIfInBounds_toArray, List.set_cons_zero, List.set_cons_succ])
  refine wpAnyH_take (i := 16) (v := .agg #[.string m, .string t, .int .i64 k, .int .i64 n, .string r, .slice A len cap]) rfl (by kernel_rfl) (by kernel_rfl) (by kernel_rfl) (fun _ _ _ h => h) (Or.inl ⟨by kernel_rfl, ?hy32⟩) h0 ?rest32
  case hy32 =>
    intro v hv
    have k0 := hv.cell 0
    have k1 := hv.cell 1
    have k2 := hv.cell 2
    have k3 := hv.cell 3
    have k4 := hv.cell 4
    have k5 := hv.cell 5
    simp at k0 k1 k2 k3 k4 k5
    clear hv
    go_simp
  (try simp only [Act.put, List.setIfInBounds_toArray, List.set_cons_zero, List.set_cons_succ])
  refine wpAnyH_ready (rs := [15]) (by kernel_rfl) (by simp) ?_
  refine AllReadyH.cons rfl (fun K hK => ?_) AllReadyH.nil
  go_simp
  refine HHC.out.mono ?_
  rintro e V1 ⟨f6, rfl, ho6, hb6⟩
  obtain ⟨p6, c6, rfl⟩ := own_slice ho6
  simp only [Hd.row] at ho6 ⊢
  have h1 := h0.call hb6
  have HF6 := Lib.hid ho6.flds
  have HU1 := Lib.hid (HU0.out.trans (hb6.mono HU0.out.size))
  have HF1 := Lib.hid ((flds_of (cap := cap) HL.out.1).below HU1.out)
  clear ho6 hb6 h0 HHC
  refine hK _ _ h1 (fun _ => ?_)
  clear hK K
  (try simp only [Act.put, List.setIfInBounds_toArray, List.set_cons_zero, List.set_cons_succ])
  refine wpAnyH_ready (rs := [17]) (by kernel_rfl) (by simp) ?_
  refine AllReadyH.cons rfl (fun K hK => ?_) AllReadyH.nil
  go_simp
  refine (HSM.out _ _ _ HF6.out HF1.out).mono ?_
  rintro e V2 ⟨rfl, hb7⟩
  have h2 := h1.call hb7
  have HU := Lib.hid (HU1.out.trans (hb7.mono HU1.out.size))
  clear hb7 h1 HSM
  refine hK _ _ h2 (fun _ => ?_)
  clear hK K
  (try simp only [Act.put, List.setIfInBounds_toArray, List.set_cons_zero, List.set_cons_succ])
  refine wpAnyH_take (i := 18) (v := .bool false) rfl (by kernel_rfl) (by kernel_rfl) (by kernel_rfl) (fun _ _ _ h => h) (Or.inl ⟨by kernel_rfl, ?hy33⟩) h2 ?rest33
  case hy33 =>
    intro v hv
    clear hv
    go_simp
  (try simp only [Act.put, List.setIfInBounds_toArray, List.set_cons_zero, List.set_cons_succ])
  refine wpAnyH_take (i := 19) (v := .bool false) rfl (by kernel_rfl) (by kernel_rfl) (by kernel_rfl) (fun _ _ _ h => h) (Or.inl ⟨by kernel_rfl, ?hy34⟩) h2 ?rest34
  case hy34 =>
    intro v hv
    clear hv
    go_simp
  (try simp only [Act.put, List.setIfInBounds_toArray, List.set_cons_zero, List.set_cons_succ])
  refine wpAnyH_done (by kernel_rfl) ?_ _
  have K1 := Lib.hid h2
  clear h2
  go_wp2_with (first
    | (go_at_call 9; refine HSH.out.mono ?_; rintro e1 w1 ⟨rfl, hb⟩; have HU := Lib.hid (below_one hb); have K1 := Lib.hid ((Blk.new w #[.string m, .string t, .int .i64 k, .int .i64 n, .string r, .slice A len cap] 24).call hb); have x0 := K1.out.cell 0; have x1 := K1.out.cell 1; have x2 := K1.out.cell 2; have x3 := K1.out.cell 3; have x4 := K1.out.cell 4; have x5 := K1.out.cell 5; simp at x0 x1 x2 x3 x4 x5; clear hb HSH)
    | (go_at_call 26; refine (HRT.out _ HU.out).mono ?_; rintro e2 w2 ⟨rfl, hb⟩; have HU := Lib.hid (HU.out.trans (hb.mono HU.out.size)); have K1 := Lib.hid (K1.out.call hb); clear x0 x1 x2 x3 x4 x5; have x0 := K1.out.cell 0; have x1 := K1.out.cell 1; have x2 := K1.out.cell 2; have x3 := K1.out.cell 3; have x4 := K1.out.cell 4; have x5 := K1.out.cell 5; simp at x0 x1 x2 x3 x4 x5; clear hb HRT)
    | (go_at_call 27; refine (HPR.out _ HU.out).mono ?_; rintro e3 w3 ⟨rfl, hb⟩; have HU := Lib.hid (HU.out.trans (hb.mono HU.out.size)); have K1 := Lib.hid (K1.out.call hb); clear x0 x1 x2 x3 x4 x5; clear hb HPR)
    | (go_at_call 28; refine (wide_any _).mono ?_; rintro e4 w4 ⟨rfl, hb⟩; have HU := Lib.hid (HU.out.trans (hb.mono HU.out.size)); have K1 := Lib.hid (K1.out.call hb); (try clear x0 x1 x2 x3 x4 x5); clear hb)
    | (go_at_call 18; refine (HNW1.out _).mono ?_; rintro e5 w5 ⟨b1, g1, rfl, hb1, hg1, hp, hb⟩; have HBG1 := Lib.hid (And.intro (Nat.le_trans (Nat.succ_le_of_lt K1.out.lt) hb1) (Nat.le_trans (Nat.succ_le_of_lt K1.out.lt) hg1)); have HU := Lib.hid (HU.out.trans (hb.mono HU.out.size)); have K1 := Lib.hid (K1.out.call hb); have HP1 := Lib.hid hp; clear hb hp hb1 hg1 HNW1)
    | (go_at_call 29; refine (HFD1.out _ _ _ _ HP1.out (mx_below HM.out HU.out) HU.out K1.out HBG1.out.1 HBG1.out.2).mono ?_; rintro e6 w6 ⟨rfl, hu, hk, vl1, va1, vf1, p1, hp, hln, hdn, hdo⟩; have HU := Lib.hid hu; have K1 := Lib.hid hk; have HP1 := Lib.hid hp; have HI1 := Lib.hid (And.intro hln (And.intro hdn hdo)); clear hu hk hp hln hdn hdo HFD1)
    | (go_at_call 18; refine (HNW2.out _).mono ?_; rintro e7 w7 ⟨b2, g2, rfl, hb2, hg2, hp, hb⟩; have HBG2 := Lib.hid (And.intro (Nat.le_trans HU.out.size hb2) (Nat.le_trans HU.out.size hg2)); have HU := Lib.hid (HU.out.trans (hb.mono HU.out.size)); have HP2 := Lib.hid hp; clear hb hp hb2 hg2 HNW2)
    | (go_at_call 18; refine (HNW2.out _).mono ?_; rintro e7 w7 ⟨rfl, hb⟩; have HU := Lib.hid (HU.out.trans (hb.mono HU.out.size)); clear hb HNW2)
    | (go_at_call 29; refine (HFD2.out _ _ _ _ HP2.out (mx_below HM.out HU.out) HU.out HBG2.out.1 HBG2.out.2).mono ?_; rintro e8 w8 ⟨rfl, hu, vl2, va2, vf2, p2, hp, hln, hdn, hri⟩; have HU := Lib.hid hu; have hd := hdone_any hp; rw [hdn] at hd; have HDC2 := Lib.hid hd; have HRI := Lib.hid hri; have HHC2 := Lib.hid (hhead_any hp hln); clear hu hp hln hdn hri hd HFD2)
    | (go_at_call 22; refine HDC2.out.mono ?_; rintro e9 w9 ⟨rfl, h9⟩; subst h9; clear HDC2)
    | (go_at_call 24; have hh := HHC2.out; rw [(HRI.out (by trivial)).1] at hh; refine hh.mono ?_; clear hh; rintro eA wA ⟨fA, rfl, hoA, hb⟩; obtain ⟨pA, cA, rfl⟩ := own_slice hoA; simp only [Hd.row] at hoA ⊢; have HFA := Lib.hid hoA.flds; have HU := Lib.hid (HU.out.trans (hb.mono HU.out.size)); clear hoA hb HHC2)
    | (go_at_call 26; refine ((HRI.out (by trivial)).2 _ _ HFA.out).mono ?_; rintro eB wB ⟨rfl, hb⟩; have HU := Lib.hid (HU.out.trans (hb.mono HU.out.size)); clear hb)
    | (go_at_call 19; refine (hlives_any _ (mx_below HM.out HU.out)).mono ?_; rintro eC wC ⟨rfl, hb⟩; have HU := Lib.hid (HU.out.trans (hb.mono HU.out.size)); clear hb))
  go_ret
  exact ⟨rfl, HU.out⟩
set_option maxRecDepth 100000 in
set_option maxHeartbeats 8000000 in
theorem hback_q0f (w : World) {A : Option Addr} {len cap : Nat} {l : List Fd} (m t r : ByteArray) (k n kind : Int) (S T : ByteArray) {mx : Int} (HM : Hid (w.cell? ⟨0, 0, none⟩ = some (.int .i64 mx))) (K0 : Nat) (hmin : min (S.size : Int) 2000 = (K0 : Int)) (hsl : ∀ W : World, (Instr.slice 9 (.string S) none (some (.int .i64 (K0 : Int))) none).run Tryz.prog W = .ok (.string T) W)
    (HSH : Hid (Calls Tryz.prog 9 #[.agg #[.string m, .string t, .int .i64 k, .int .i64 n, .string r, .slice A len cap]] (w.alloc (.cells #[.string m, .string t, .int .i64 k, .int .i64 n, .string r, .slice A len cap] 24)) fun e w' => e = .returned (.bool true) ∧ Below (w.alloc (.cells #[.string m, .string t, .int .i64 k, .int .i64 n, .string r, .slice A len cap] 24)).heap.size (w.alloc (.cells #[.string m, .string t, .int .i64 k, .int .i64 n, .string r, .slice A len cap] 24)) w'))
    (HRT : Hid (∀ W, Below w.heap.size w W → Calls Tryz.prog 26 #[.agg #[.string m, .string t, .int .i64 k, .int .i64 n, .string r, .slice A len cap]] W fun e w' => e = .returned (.bool false) ∧ Below W.heap.size W w')) (N2 E2 : Int) (qm qt qr : ByteArray) (qk qn : Int) (qf : List Fd) (HNW2 : Hid (∀ W : World, Calls Tryz.prog 18 #[.int .i64 kind, .agg #[.int .i64 65536, .int .i64 1000, .int .i64 0, .int .i64 0, .int .i64 0]] W fun e w' => ∃ b g, e = .returned (.pointer (some ⟨b, 0, none⟩)) ∧ W.heap.size ≤ b ∧ W.heap.size ≤ g ∧ PaAt w' b g (W.heap.size + 3) nilS nilS nilS kind 65536 1000 0 0 0 (pa0 65536) ∧ Below W.heap.size W w')) (HFD2 : Hid (∀ (W : World) (b g B : Nat), PaAt W b g B nilS nilS nilS kind 65536 1000 0 0 0 (pa0 65536) → W.cell? ⟨0, 0, none⟩ = some (.int .i64 mx) → Below w.heap.size w W → w.heap.size ≤ b → w.heap.size ≤ g → Calls Tryz.prog 29 #[.pointer (some ⟨b, 0, none⟩), .string T] W fun e w' => e = .returned (.tuple #[.int .i64 N2, .int .i64 E2]) ∧ Below w.heap.size w w' ∧ ∃ vl va vf p, PaAt w' b g B vl va vf kind 65536 1000 0 0 0 p ∧ p.hd.fs.length ≤ 1000000 ∧ (p.fin && p.e == 0) = false ∧ (false = true → doneH p = ⟨qm, qt, qk, qn, qr, qf⟩ ∧ ∀ (V : World) (f : Value), Flds V f qf → Calls Tryz.prog 26 #[.agg #[.string qm, .string qt, .int .i64 qk, .int .i64 qn, .string qr, f]] V fun e w' => e = .returned (.bool true) ∧ Below V.heap.size V w'))) :
    Calls Tryz.prog 6 #[.agg #[.string m, .string t, .int .i64 k, .int .i64 n, .string r, .slice A len cap], .int .i64 kind, .string S] w fun e w' => e = .returned (.bool true) ∧ Below w.heap.size w w' := by
  go_enter Tryz.func6, Tryz.ntmps6
  go_wp2_with (first
    | (go_at_call 9; refine HSH.out.mono ?_; rintro e1 w1 ⟨rfl, hb⟩; have HU := Lib.hid (below_one hb); have K1 := Lib.hid ((Blk.new w #[.string m, .string t, .int .i64 k, .int .i64 n, .string r, .slice A len cap] 24).call hb); have x0 := K1.out.cell 0; have x1 := K1.out.cell 1; have x2 := K1.out.cell 2; have x3 := K1.out.cell 3; have x4 := K1.out.cell 4; have x5 := K1.out.cell 5; simp at x0 x1 x2 x3 x4 x5; clear hb HSH)
    | (go_at_call 26; refine (HRT.out _ HU.out).mono ?_; rintro e2 w2 ⟨rfl, hb⟩; have HU := Lib.hid (HU.out.trans (hb.mono HU.out.size)); have K1 := Lib.hid (K1.out.call hb); clear x0 x1 x2 x3 x4 x5; have x0 := K1.out.cell 0; have x1 := K1.out.cell 1; have x2 := K1.out.cell 2; have x3 := K1.out.cell 3; have x4 := K1.out.cell 4; have x5 := K1.out.cell 5; simp at x0 x1 x2 x3 x4 x5; clear hb HRT)
    | (go_at_call 27; refine (HPR.out _ HU.out).mono ?_; rintro e3 w3 ⟨rfl, hb⟩; have HU := Lib.hid (HU.out.trans (hb.mono HU.out.size)); have K1 := Lib.hid (K1.out.call hb); clear x0 x1 x2 x3 x4 x5; clear hb HPR)
    | (go_at_call 28; refine (wide_any _).mono ?_; rintro e4 w4 ⟨rfl, hb⟩; have HU := Lib.hid (HU.out.trans (hb.mono HU.out.size)); have K1 := Lib.hid (K1.out.call hb); (try clear x0 x1 x2 x3 x4 x5); clear hb)
    | (go_at_call 18; refine (HNW1.out _).mono ?_; rintro e5 w5 ⟨b1, g1, rfl, hb1, hg1, hp, hb⟩; have HBG1 := Lib.hid (And.intro (Nat.le_trans (Nat.succ_le_of_lt K1.out.lt) hb1) (Nat.le_trans (Nat.succ_le_of_lt K1.out.lt) hg1)); have HU := Lib.hid (HU.out.trans (hb.mono HU.out.size)); have K1 := Lib.hid (K1.out.call hb); have HP1 := Lib.hid hp; clear hb hp hb1 hg1 HNW1)
    | (go_at_call 29; refine (HFD1.out _ _ _ _ HP1.out (mx_below HM.out HU.out) HU.out K1.out HBG1.out.1 HBG1.out.2).mono ?_; rintro e6 w6 ⟨rfl, hu, hk, vl1, va1, vf1, p1, hp, hln, hdn, hdo⟩; have HU := Lib.hid hu; have K1 := Lib.hid hk; have HP1 := Lib.hid hp; have HI1 := Lib.hid (And.intro hln (And.intro hdn hdo)); clear hu hk hp hln hdn hdo HFD1)
    | (go_at_call 18; refine (HNW2.out _).mono ?_; rintro e7 w7 ⟨b2, g2, rfl, hb2, hg2, hp, hb⟩; have HBG2 := Lib.hid (And.intro (Nat.le_trans HU.out.size hb2) (Nat.le_trans HU.out.size hg2)); have HU := Lib.hid (HU.out.trans (hb.mono HU.out.size)); have HP2 := Lib.hid hp; clear hb hp hb2 hg2 HNW2)
    | (go_at_call 18; refine (HNW2.out _).mono ?_; rintro e7 w7 ⟨rfl, hb⟩; have HU := Lib.hid (HU.out.trans (hb.mono HU.out.size)); clear hb HNW2)
    | (go_at_call 29; refine (HFD2.out _ _ _ _ HP2.out (mx_below HM.out HU.out) HU.out HBG2.out.1 HBG2.out.2).mono ?_; rintro e8 w8 ⟨rfl, hu, vl2, va2, vf2, p2, hp, hln, hdn, hri⟩; have HU := Lib.hid hu; have hd := hdone_any hp; rw [hdn] at hd; have HDC2 := Lib.hid hd; have HRI := Lib.hid hri; have HHC2 := Lib.hid (hhead_any hp hln); clear hu hp hln hdn hri hd HFD2)
    | (go_at_call 22; refine HDC2.out.mono ?_; rintro e9 w9 ⟨rfl, h9⟩; subst h9; clear HDC2)
    | (go_at_call 24; have hh := HHC2.out; rw [(HRI.out (by trivial)).1] at hh; refine hh.mono ?_; clear hh; rintro eA wA ⟨fA, rfl, hoA, hb⟩; obtain ⟨pA, cA, rfl⟩ := own_slice hoA; simp only [Hd.row] at hoA ⊢; have HFA := Lib.hid hoA.flds; have HU := Lib.hid (HU.out.trans (hb.mono HU.out.size)); clear hoA hb HHC2)
    | (go_at_call 26; refine ((HRI.out (by trivial)).2 _ _ HFA.out).mono ?_; rintro eB wB ⟨rfl, hb⟩; have HU := Lib.hid (HU.out.trans (hb.mono HU.out.size)); clear hb)
    | (go_at_call 19; refine (hlives_any _ (mx_below HM.out HU.out)).mono ?_; rintro eC wC ⟨rfl, hb⟩; have HU := Lib.hid (HU.out.trans (hb.mono HU.out.size)); clear hb))
  go_ret
  exact ⟨rfl, HU.out⟩
set_option maxRecDepth 100000 in
set_option maxHeartbeats 8000000 in
theorem hback_m1f (w : World) {A : Option Addr} {len cap : Nat} {l : List Fd} (m t r : ByteArray) (k n kind : Int) (S T : ByteArray) {mx : Int} (HM : Hid (w.cell? ⟨0, 0, none⟩ = some (.int .i64 mx))) (K0 : Nat) (hmin : min (S.size : Int) 2000 = (K0 : Int)) (hsl : ∀ W : World, (Instr.slice 9 (.string S) none (some (.int .i64 (K0 : Int))) none).run Tryz.prog W = .ok (.string T) W)
    (HSH : Hid (Calls Tryz.prog 9 #[.agg #[.string m, .string t, .int .i64 k, .int .i64 n, .string r, .slice A len cap]] (w.alloc (.cells #[.string m, .string t, .int .i64 k, .int .i64 n, .string r, .slice A len cap] 24)) fun e w' => e = .returned (.bool true) ∧ Below (w.alloc (.cells #[.string m, .string t, .int .i64 k, .int .i64 n, .string r, .slice A len cap] 24)).heap.size (w.alloc (.cells #[.string m, .string t, .int .i64 k, .int .i64 n, .string r, .slice A len cap] 24)) w'))
    (HRT : Hid (∀ W, Below w.heap.size w W → Calls Tryz.prog 26 #[.agg #[.string m, .string t, .int .i64 k, .int .i64 n, .string r, .slice A len cap]] W fun e w' => e = .returned (.bool true) ∧ Below W.heap.size W w')) (P : ByteArray) (hPs : P.size ≤ 1000000) (HL : Hid (Fds w A len l ∧ l.length ≤ 1000000)) (he : m.toList.isEmpty = false) (HPR : Hid (∀ W, Below w.heap.size w W → Calls Tryz.prog 27 #[.agg #[.string m, .string t, .int .i64 k, .int .i64 n, .string r, .slice A len cap]] W fun e w' => e = .returned (.string P) ∧ Below W.heap.size W w')) (HNW1 : Hid (∀ W : World, Calls Tryz.prog 18 #[.int .i64 1, .agg #[.int .i64 65536, .int .i64 1000, .int .i64 0, .int .i64 0, .int .i64 0]] W fun e w' => ∃ b g, e = .returned (.pointer (some ⟨b, 0, none⟩)) ∧ W.heap.size ≤ b ∧ W.heap.size ≤ g ∧ PaAt w' b g (W.heap.size + 3) nilS nilS nilS 1 65536 1000 0 0 0 (pa0 65536) ∧ Below W.heap.size W w')) (HFD1 : Hid (∀ (W : World) (b g B : Nat), PaAt W b g B nilS nilS nilS 1 65536 1000 0 0 0 (pa0 65536) → W.cell? ⟨0, 0, none⟩ = some (.int .i64 mx) → Below w.heap.size w W → Blk W w.heap.size #[.string m, .string t, .int .i64 k, .int .i64 n, .string r, .slice A len cap] 24 → w.heap.size + 1 ≤ b → w.heap.size + 1 ≤ g → Calls Tryz.prog 29 #[.pointer (some ⟨b, 0, none⟩), .string (P ++ ⟨#[120]⟩)] W fun e w' => e = .returned (.tuple #[.int .i64 (P.size : Int), .int .i64 0]) ∧ Below w.heap.size w w' ∧ Blk w' w.heap.size #[.string m, .string t, .int .i64 k, .int .i64 n, .string r, .slice A len cap] 24 ∧ ∃ vl va vf p, PaAt w' b g B vl va vf 1 65536 1000 0 0 0 p ∧ p.hd.fs.length ≤ 1000000 ∧ (p.fin && p.e == 0) = true ∧ doneH p = ⟨m, t, k, n, r, l⟩)) (N2 E2 : Int) (qm qt qr : ByteArray) (qk qn : Int) (qf : List Fd) (HNW2 : Hid (∀ W : World, Calls Tryz.prog 18 #[.int .i64 kind, .agg #[.int .i64 65536, .int .i64 1000, .int .i64 0, .int .i64 0, .int .i64 0]] W fun e w' => ∃ b g, e = .returned (.pointer (some ⟨b, 0, none⟩)) ∧ W.heap.size ≤ b ∧ W.heap.size ≤ g ∧ PaAt w' b g (W.heap.size + 3) nilS nilS nilS kind 65536 1000 0 0 0 (pa0 65536) ∧ Below W.heap.size W w')) (HFD2 : Hid (∀ (W : World) (b g B : Nat), PaAt W b g B nilS nilS nilS kind 65536 1000 0 0 0 (pa0 65536) → W.cell? ⟨0, 0, none⟩ = some (.int .i64 mx) → Below w.heap.size w W → w.heap.size ≤ b → w.heap.size ≤ g → Calls Tryz.prog 29 #[.pointer (some ⟨b, 0, none⟩), .string T] W fun e w' => e = .returned (.tuple #[.int .i64 N2, .int .i64 E2]) ∧ Below w.heap.size w w' ∧ ∃ vl va vf p, PaAt w' b g B vl va vf kind 65536 1000 0 0 0 p ∧ p.hd.fs.length ≤ 1000000 ∧ (p.fin && p.e == 0) = false ∧ (false = true → doneH p = ⟨qm, qt, qk, qn, qr, qf⟩ ∧ ∀ (V : World) (f : Value), Flds V f qf → Calls Tryz.prog 26 #[.agg #[.string qm, .string qt, .int .i64 qk, .int .i64 qn, .string qr, f]] V fun e w' => e = .returned (.bool true) ∧ Below V.heap.size V w'))) :
    Calls Tryz.prog 6 #[.agg #[.string m, .string t, .int .i64 k, .int .i64 n, .string r, .slice A len cap], .int .i64 kind, .string S] w fun e w' => e = .returned (.bool true) ∧ Below w.heap.size w w' := by
  go_enter Tryz.func6, Tryz.ntmps6
  go_wp2_with (first
    | (go_at_call 9; refine HSH.out.mono ?_; rintro e1 w1 ⟨rfl, hb⟩; have HU := Lib.hid (below_one hb); have K1 := Lib.hid ((Blk.new w #[.string m, .string t, .int .i64 k, .int .i64 n, .string r, .slice A len cap] 24).call hb); have x0 := K1.out.cell 0; have x1 := K1.out.cell 1; have x2 := K1.out.cell 2; have x3 := K1.out.cell 3; have x4 := K1.out.cell 4; have x5 := K1.out.cell 5; simp at x0 x1 x2 x3 x4 x5; clear hb HSH)
    | (go_at_call 26; refine (HRT.out _ HU.out).mono ?_; rintro e2 w2 ⟨rfl, hb⟩; have HU := Lib.hid (HU.out.trans (hb.mono HU.out.size)); have K1 := Lib.hid (K1.out.call hb); clear x0 x1 x2 x3 x4 x5; have x0 := K1.out.cell 0; have x1 := K1.out.cell 1; have x2 := K1.out.cell 2; have x3 := K1.out.cell 3; have x4 := K1.out.cell 4; have x5 := K1.out.cell 5; simp at x0 x1 x2 x3 x4 x5; clear hb HRT)
    | (go_at_call 27; refine (HPR.out _ HU.out).mono ?_; rintro e3 w3 ⟨rfl, hb⟩; have HU := Lib.hid (HU.out.trans (hb.mono HU.out.size)); have K1 := Lib.hid (K1.out.call hb); clear x0 x1 x2 x3 x4 x5; clear hb HPR)
    | (go_at_call 28; refine (wide_any _).mono ?_; rintro e4 w4 ⟨rfl, hb⟩; have HU := Lib.hid (HU.out.trans (hb.mono HU.out.size)); have K1 := Lib.hid (K1.out.call hb); (try clear x0 x1 x2 x3 x4 x5); clear hb)
    | (go_at_call 18; refine (HNW1.out _).mono ?_; rintro e5 w5 ⟨b1, g1, rfl, hb1, hg1, hp, hb⟩; have HBG1 := Lib.hid (And.intro (Nat.le_trans (Nat.succ_le_of_lt K1.out.lt) hb1) (Nat.le_trans (Nat.succ_le_of_lt K1.out.lt) hg1)); have HU := Lib.hid (HU.out.trans (hb.mono HU.out.size)); have K1 := Lib.hid (K1.out.call hb); have HP1 := Lib.hid hp; clear hb hp hb1 hg1 HNW1)
    | (go_at_call 29; refine (HFD1.out _ _ _ _ HP1.out (mx_below HM.out HU.out) HU.out K1.out HBG1.out.1 HBG1.out.2).mono ?_; rintro e6 w6 ⟨rfl, hu, hk, vl1, va1, vf1, p1, hp, hln, hdn, hdo⟩; have HU := Lib.hid hu; have K1 := Lib.hid hk; have HP1 := Lib.hid hp; have HI1 := Lib.hid (And.intro hln (And.intro hdn hdo)); clear hu hk hp hln hdn hdo HFD1)
    | (go_at_call 18; refine (HNW2.out _).mono ?_; rintro e7 w7 ⟨b2, g2, rfl, hb2, hg2, hp, hb⟩; have HBG2 := Lib.hid (And.intro (Nat.le_trans HU.out.size hb2) (Nat.le_trans HU.out.size hg2)); have HU := Lib.hid (HU.out.trans (hb.mono HU.out.size)); have HP2 := Lib.hid hp; clear hb hp hb2 hg2 HNW2)
    | (go_at_call 18; refine (HNW2.out _).mono ?_; rintro e7 w7 ⟨rfl, hb⟩; have HU := Lib.hid (HU.out.trans (hb.mono HU.out.size)); clear hb HNW2)
    | (go_at_call 29; refine (HFD2.out _ _ _ _ HP2.out (mx_below HM.out HU.out) HU.out HBG2.out.1 HBG2.out.2).mono ?_; rintro e8 w8 ⟨rfl, hu, vl2, va2, vf2, p2, hp, hln, hdn, hri⟩; have HU := Lib.hid hu; have hd := hdone_any hp; rw [hdn] at hd; have HDC2 := Lib.hid hd; have HRI := Lib.hid hri; have HHC2 := Lib.hid (hhead_any hp hln); clear hu hp hln hdn hri hd HFD2)
    | (go_at_call 22; refine HDC2.out.mono ?_; rintro e9 w9 ⟨rfl, h9⟩; subst h9; clear HDC2)
    | (go_at_call 24; have hh := HHC2.out; rw [(HRI.out (by trivial)).1] at hh; refine hh.mono ?_; clear hh; rintro eA wA ⟨fA, rfl, hoA, hb⟩; obtain ⟨pA, cA, rfl⟩ := own_slice hoA; simp only [Hd.row] at hoA ⊢; have HFA := Lib.hid hoA.flds; have HU := Lib.hid (HU.out.trans (hb.mono HU.out.size)); clear hoA hb HHC2)
    | (go_at_call 26; refine ((HRI.out (by trivial)).2 _ _ HFA.out).mono ?_; rintro eB wB ⟨rfl, hb⟩; have HU := Lib.hid (HU.out.trans (hb.mono HU.out.size)); clear hb)
    | (go_at_call 19; refine (hlives_any _ (mx_below HM.out HU.out)).mono ?_; rintro eC wC ⟨rfl, hb⟩; have HU := Lib.hid (HU.out.trans (hb.mono HU.out.size)); clear hb))
  refine wp_region_at (S := fun v => Blk v w.heap.size #[.string m, .string t, .int .i64 k, .int .i64 n, .string r, .slice A len cap] 24) (by kernel_rfl) ?_
  intro V0 hV0
  have h0 := K1.out.drew
  have hp0 := HP1.out.drew
  have hu0 := HU.out.drew
  rw [← hV0] at h0 hp0 hu0
  have hd0 := hdone_any hp0
  rw [HI1.out.2.1] at hd0
  have HDC := Lib.hid hd0
  have hh0 := hhead_any hp0 HI1.out.1
  rw [HI1.out.2.2] at hh0
  have HHC := Lib.hid hh0
  have HU0 := Lib.hid hu0
  have HSM := Lib.hid (fun (W : World) (f f' : Value) (h1 : Flds W f l) (h2 : Flds W f' l) => hsame_self ⟨m, t, k, n, r, l⟩ f f' W h1 h2 HL.out.2)
  simp only [Hd.row] at HSM
  clear hV0 hp0 hu0 hd0 hh0 HP1 HI1 HU K1 HBG1
  refine wpAnyH_take (i := 0) (v := .int .i64 (P.size : Int)) rfl (by kernel_rfl) (by kernel_rfl) (by kernel_rfl) (fun _ _ _ h => h) (Or.inl ⟨by kernel_rfl, ?hy35⟩) h0 ?rest35
  case hy35 =>
    intro v hv
    clear hv
    go_simp
  (try simp only [Act.put, List.setIfInBounds_toArray, List.set_cons_zero, List.set_cons_succ])
  refine wpAnyH_take (i := 1) (v := .string P) rfl (by kernel_rfl) (by kernel_rfl) (by kernel_rfl) (fun _ _ _ h => h) (Or.inl ⟨by kernel_rfl, ?hy36⟩) h0 ?rest36
  case hy36 =>
    intro v hv
    clear hv
    go_simp
  (try simp only [Act.put, List.setIfInBounds_toArray, List.set_cons_zero, List.set_cons_succ])
  refine wpAnyH_take (i := 2) (v := .int .i64 (P.size : Int)) rfl (by kernel_rfl) (by kernel_rfl) (by kernel_rfl) (fun _ _ _ h => h) (Or.inl ⟨by kernel_rfl, ?hy37⟩) h0 ?rest37
  case hy37 =>
    intro v hv
    clear hv
    go_simp
  (try simp only [Act.put, List.setIfInBounds_toArray, List.set_cons_zero, List.set_cons_succ])
  refine wpAnyH_take (i := 3) (v := .bool false) rfl (by kernel_rfl) (by kernel_rfl) (by kernel_rfl) (fun _ _ _ h => h) (Or.inl ⟨by kernel_rfl, ?hy38⟩) h0 ?rest38
  case hy38 =>
    intro v hv
    clear hv
    go_simp
  (try simp only [Act.put, List.setIfInBounds_toArray, List.set_cons_zero, List.set_cons_succ])
  refine wpAnyH_take (i := 4) (v := .bool false) rfl (by kernel_rfl) (by kernel_rfl) (by kernel_rfl) (fun _ _ _ h => h) (Or.inl ⟨by kernel_rfl, ?hy39⟩) h0 ?rest39
  case hy39 =>
    intro v hv
    clear hv
    go_simp
  (try simp only [Act.put, List.setIfInBounds_toArray, List.set_cons_zero, List.set_cons_succ])
  refine wpAnyH_take (i := 5) (v := .int .i64 0) rfl (by kernel_rfl) (by kernel_rfl) (by kernel_rfl) (fun _ _ _ h => h) (Or.inl ⟨by kernel_rfl, ?hy40⟩) h0 ?rest40
  case hy40 =>
    intro v hv
    clear hv
    go_simp
  (try simp only [Act.put, List.setIfInBounds_toArray, List.set_cons_zero, List.set_cons_succ])
  refine wpAnyH_take (i := 6) (v := .bool false) rfl (by kernel_rfl) (by kernel_rfl) (by kernel_rfl) (fun _ _ _ h => h) (Or.inl ⟨by kernel_rfl, ?hy41⟩) h0 ?rest41
  case hy41 =>
    intro v hv
    clear hv
    go_simp
  (try simp only [Act.put, List.setIfInBounds_toArray, List.set_cons_zero, List.set_cons_succ])
  refine wpAnyH_take (i := 7) (v := .bool false) rfl (by kernel_rfl) (by kernel_rfl) (by kernel_rfl) (fun _ _ _ h => h) (Or.inl ⟨by kernel_rfl, ?hy42⟩) h0 ?rest42
  case hy42 =>
    intro v hv
    clear hv
    go_simp
  (try simp only [Act.put, List.setIfInBounds_toArray, List.set_cons_zero, List.set_cons_succ])
  refine wpAnyH_take (i := 8) (v := .bool false) rfl (by kernel_rfl) (by kernel_rfl) (by kernel_rfl) (fun _ _ _ h => h) (Or.inl ⟨by kernel_rfl, ?hy43⟩) h0 ?rest43
  case hy43 =>
    intro v hv
    clear hv
    go_simp
  (try simp only [Act.put, List.setIfInBounds_toArray, List.set_cons_zero, List.set_cons_succ])
  refine wpAnyH_take (i := 9) (v := .pointer (some ⟨b1, 0, none⟩)) rfl (by kernel_rfl) (by kernel_rfl) (by kernel_rfl) (fun _ _ _ h => h) (Or.inl ⟨by kernel_rfl, ?hy44⟩) h0 ?rest44
  case hy44 =>
    intro v hv
    clear hv
    go_simp
  (try simp only [Act.put, List.setIfInBounds_toArray, List.set_cons_zero, List.set_cons_succ])
  refine wpAnyH_ready (rs := [10]) (by kernel_rfl) (by simp) ?_
  refine AllReadyH.cons rfl (fun K hK => ?_) AllReadyH.nil
  go_simp
  refine HDC.out.mono ?_
  rintro e V1 ⟨rfl, h1⟩
  subst h1
  refine hK _ _ h0 (fun _ => ?_)
  clear hK K HDC
  (try simp only [Act.put, List.setIfInBounds_toArray, List.set_cons_zero, List.set_cons_succ])
  refine wpAnyH_take (i := 11) (v := .bool false) rfl (by kernel_rfl) (by kernel_rfl) (by kernel_rfl) (fun _ _ _ h => h) (Or.inl ⟨by kernel_rfl, ?hy45⟩) h0 ?rest45
  case hy45 =>
    intro v hv
    clear hv
    go_simp
  (try simp only [Act.put, List.setIfInBounds_toArray, List.set_cons_zero, List.set_cons_succ])
  refine wpAnyH_take (i := 12) (v := .bool false) rfl (by kernel_rfl) (by kernel_rfl) (by kernel_rfl) (fun _ _ _ h => h) (Or.inl ⟨by kernel_rfl, ?hy46⟩) h0 ?rest46
  case hy46 =>
    intro v hv
    clear hv
    go_simp
  (try simp only [Act.put, List.setIfInBounds_toArray, List.set_cons_zero, List.set_cons_succ])
  refine wpAnyH_take (i := 13) (v := .bool false) rfl (by kernel_rfl) (by kernel_rfl) (by kernel_rfl) (fun _ _ _ h => h) (Or.inl ⟨by kernel_rfl, ?hy47⟩) h0 ?rest47
  case hy47 =>
    intro v hv
    clear hv
    go_simp
  (try simp only [Act.put, List.setIfInBounds_toArray, List.set_cons_zero, List.set_cons_succ])
  refine wpAnyH_take (i := 14) (v := .pointer (some ⟨b1, 0, none⟩)) rfl (by kernel_rfl) (by kernel_rfl) (by kernel_rfl) (fun _ _ _ h => h) (Or.inl ⟨by kernel_rfl, ?hy48⟩) h0 ?rest48
  case hy48 =>
    intro v hv
    clear hv
    go_simp
  (try simp only [Act.put, List.setIfInBounds_toArray, List.set_cons_zero, List.set_cons_succ])
  refine wpAnyH_take (i := 16) (v := .agg #[.string m, .string t, .int .i64 k, .int .i64 n, .string r, .slice A len cap]) rfl (by kernel_rfl) (by kernel_rfl) (by kernel_rfl) (fun _ _ _ h => h) (Or.inl ⟨by kernel_rfl, ?hy49⟩) h0 ?rest49
  case hy49 =>
    intro v hv
    have k0 := hv.cell 0
    have k1 := hv.cell 1
    have k2 := hv.cell 2
    have k3 := hv.cell 3
    have k4 := hv.cell 4
    have k5 := hv.cell 5
    simp at k0 k1 k2 k3 k4 k5
    clear hv
    go_simp
  (try simp only [Act.put, List.setIfInBounds_toArray, List.set_cons_zero, List.set_cons_succ])
  refine wpAnyH_ready (rs := [15]) (by kernel_rfl) (by simp) ?_
  refine AllReadyH.cons rfl (fun K hK => ?_) AllReadyH.nil
  go_simp
  refine HHC.out.mono ?_
  rintro e V1 ⟨f6, rfl, ho6, hb6⟩
  obtain ⟨p6, c6, rfl⟩ := own_slice ho6
  simp only [Hd.row] at ho6 ⊢
  have h1 := h0.call hb6
  have HF6 := Lib.hid ho6.flds
  have HU1 := Lib.hid (HU0.out.trans (hb6.mono HU0.out.size))
  have HF1 := Lib.hid ((flds_of (cap := cap) HL.out.1).below HU1.out)
  clear ho6 hb6 h0 HHC
  refine hK _ _ h1 (fun _ => ?_)
  clear hK K
  (try simp only [Act.put, List.setIfInBounds_toArray, List.set_cons_zero, List.set_cons_succ])
  refine wpAnyH_ready (rs := [17]) (by kernel_rfl) (by simp) ?_
  refine AllReadyH.cons rfl (fun K hK => ?_) AllReadyH.nil
  go_simp
  refine (HSM.out _ _ _ HF6.out HF1.out).mono ?_
  rintro e V2 ⟨rfl, hb7⟩
  have h2 := h1.call hb7
  have HU := Lib.hid (HU1.out.trans (hb7.mono HU1.out.size))
  clear hb7 h1 HSM
  refine hK _ _ h2 (fun _ => ?_)
  clear hK K
  (try simp only [Act.put, List.setIfInBounds_toArray, List.set_cons_zero, List.set_cons_succ])
  refine wpAnyH_take (i := 18) (v := .bool false) rfl (by kernel_rfl) (by kernel_rfl) (by kernel_rfl) (fun _ _ _ h => h) (Or.inl ⟨by kernel_rfl, ?hy50⟩) h2 ?rest50
  case hy50 =>
    intro v hv
    clear hv
    go_simp
  (try simp only [Act.put, List.setIfInBounds_toArray, List.set_cons_zero, List.set_cons_succ])
  refine wpAnyH_take (i := 19) (v := .bool false) rfl (by kernel_rfl) (by kernel_rfl) (by kernel_rfl) (fun _ _ _ h => h) (Or.inl ⟨by kernel_rfl, ?hy51⟩) h2 ?rest51
  case hy51 =>
    intro v hv
    clear hv
    go_simp
  (try simp only [Act.put, List.setIfInBounds_toArray, List.set_cons_zero, List.set_cons_succ])
  refine wpAnyH_done (by kernel_rfl) ?_ _
  have K1 := Lib.hid h2
  clear h2
  go_wp2_with (first
    | (go_at_call 9; refine HSH.out.mono ?_; rintro e1 w1 ⟨rfl, hb⟩; have HU := Lib.hid (below_one hb); have K1 := Lib.hid ((Blk.new w #[.string m, .string t, .int .i64 k, .int .i64 n, .string r, .slice A len cap] 24).call hb); have x0 := K1.out.cell 0; have x1 := K1.out.cell 1; have x2 := K1.out.cell 2; have x3 := K1.out.cell 3; have x4 := K1.out.cell 4; have x5 := K1.out.cell 5; simp at x0 x1 x2 x3 x4 x5; clear hb HSH)
    | (go_at_call 26; refine (HRT.out _ HU.out).mono ?_; rintro e2 w2 ⟨rfl, hb⟩; have HU := Lib.hid (HU.out.trans (hb.mono HU.out.size)); have K1 := Lib.hid (K1.out.call hb); clear x0 x1 x2 x3 x4 x5; have x0 := K1.out.cell 0; have x1 := K1.out.cell 1; have x2 := K1.out.cell 2; have x3 := K1.out.cell 3; have x4 := K1.out.cell 4; have x5 := K1.out.cell 5; simp at x0 x1 x2 x3 x4 x5; clear hb HRT)
    | (go_at_call 27; refine (HPR.out _ HU.out).mono ?_; rintro e3 w3 ⟨rfl, hb⟩; have HU := Lib.hid (HU.out.trans (hb.mono HU.out.size)); have K1 := Lib.hid (K1.out.call hb); clear x0 x1 x2 x3 x4 x5; clear hb HPR)
    | (go_at_call 28; refine (wide_any _).mono ?_; rintro e4 w4 ⟨rfl, hb⟩; have HU := Lib.hid (HU.out.trans (hb.mono HU.out.size)); have K1 := Lib.hid (K1.out.call hb); (try clear x0 x1 x2 x3 x4 x5); clear hb)
    | (go_at_call 18; refine (HNW1.out _).mono ?_; rintro e5 w5 ⟨b1, g1, rfl, hb1, hg1, hp, hb⟩; have HBG1 := Lib.hid (And.intro (Nat.le_trans (Nat.succ_le_of_lt K1.out.lt) hb1) (Nat.le_trans (Nat.succ_le_of_lt K1.out.lt) hg1)); have HU := Lib.hid (HU.out.trans (hb.mono HU.out.size)); have K1 := Lib.hid (K1.out.call hb); have HP1 := Lib.hid hp; clear hb hp hb1 hg1 HNW1)
    | (go_at_call 29; refine (HFD1.out _ _ _ _ HP1.out (mx_below HM.out HU.out) HU.out K1.out HBG1.out.1 HBG1.out.2).mono ?_; rintro e6 w6 ⟨rfl, hu, hk, vl1, va1, vf1, p1, hp, hln, hdn, hdo⟩; have HU := Lib.hid hu; have K1 := Lib.hid hk; have HP1 := Lib.hid hp; have HI1 := Lib.hid (And.intro hln (And.intro hdn hdo)); clear hu hk hp hln hdn hdo HFD1)
    | (go_at_call 18; refine (HNW2.out _).mono ?_; rintro e7 w7 ⟨b2, g2, rfl, hb2, hg2, hp, hb⟩; have HBG2 := Lib.hid (And.intro (Nat.le_trans HU.out.size hb2) (Nat.le_trans HU.out.size hg2)); have HU := Lib.hid (HU.out.trans (hb.mono HU.out.size)); have HP2 := Lib.hid hp; clear hb hp hb2 hg2 HNW2)
    | (go_at_call 18; refine (HNW2.out _).mono ?_; rintro e7 w7 ⟨rfl, hb⟩; have HU := Lib.hid (HU.out.trans (hb.mono HU.out.size)); clear hb HNW2)
    | (go_at_call 29; refine (HFD2.out _ _ _ _ HP2.out (mx_below HM.out HU.out) HU.out HBG2.out.1 HBG2.out.2).mono ?_; rintro e8 w8 ⟨rfl, hu, vl2, va2, vf2, p2, hp, hln, hdn, hri⟩; have HU := Lib.hid hu; have hd := hdone_any hp; rw [hdn] at hd; have HDC2 := Lib.hid hd; have HRI := Lib.hid hri; have HHC2 := Lib.hid (hhead_any hp hln); clear hu hp hln hdn hri hd HFD2)
    | (go_at_call 22; refine HDC2.out.mono ?_; rintro e9 w9 ⟨rfl, h9⟩; subst h9; clear HDC2)
    | (go_at_call 24; have hh := HHC2.out; rw [(HRI.out (by trivial)).1] at hh; refine hh.mono ?_; clear hh; rintro eA wA ⟨fA, rfl, hoA, hb⟩; obtain ⟨pA, cA, rfl⟩ := own_slice hoA; simp only [Hd.row] at hoA ⊢; have HFA := Lib.hid hoA.flds; have HU := Lib.hid (HU.out.trans (hb.mono HU.out.size)); clear hoA hb HHC2)
    | (go_at_call 26; refine ((HRI.out (by trivial)).2 _ _ HFA.out).mono ?_; rintro eB wB ⟨rfl, hb⟩; have HU := Lib.hid (HU.out.trans (hb.mono HU.out.size)); clear hb)
    | (go_at_call 19; refine (hlives_any _ (mx_below HM.out HU.out)).mono ?_; rintro eC wC ⟨rfl, hb⟩; have HU := Lib.hid (HU.out.trans (hb.mono HU.out.size)); clear hb))
  go_ret
  exact ⟨rfl, HU.out⟩
set_option maxRecDepth 100000 in
set_option maxHeartbeats 8000000 in
theorem hback_m2f (w : World) {A : Option Addr} {len cap : Nat} {l : List Fd} (m t r : ByteArray) (k n kind : Int) (S T : ByteArray) {mx : Int} (HM : Hid (w.cell? ⟨0, 0, none⟩ = some (.int .i64 mx))) (K0 : Nat) (hmin : min (S.size : Int) 2000 = (K0 : Int)) (hsl : ∀ W : World, (Instr.slice 9 (.string S) none (some (.int .i64 (K0 : Int))) none).run Tryz.prog W = .ok (.string T) W)
    (HSH : Hid (Calls Tryz.prog 9 #[.agg #[.string m, .string t, .int .i64 k, .int .i64 n, .string r, .slice A len cap]] (w.alloc (.cells #[.string m, .string t, .int .i64 k, .int .i64 n, .string r, .slice A len cap] 24)) fun e w' => e = .returned (.bool true) ∧ Below (w.alloc (.cells #[.string m, .string t, .int .i64 k, .int .i64 n, .string r, .slice A len cap] 24)).heap.size (w.alloc (.cells #[.string m, .string t, .int .i64 k, .int .i64 n, .string r, .slice A len cap] 24)) w'))
    (HRT : Hid (∀ W, Below w.heap.size w W → Calls Tryz.prog 26 #[.agg #[.string m, .string t, .int .i64 k, .int .i64 n, .string r, .slice A len cap]] W fun e w' => e = .returned (.bool true) ∧ Below W.heap.size W w')) (P : ByteArray) (hPs : P.size ≤ 1000000) (HL : Hid (Fds w A len l ∧ l.length ≤ 1000000)) (he : m.toList.isEmpty = true) (HPR : Hid (∀ W, Below w.heap.size w W → Calls Tryz.prog 27 #[.agg #[.string m, .string t, .int .i64 k, .int .i64 n, .string r, .slice A len cap]] W fun e w' => e = .returned (.string P) ∧ Below W.heap.size W w')) (HNW1 : Hid (∀ W : World, Calls Tryz.prog 18 #[.int .i64 2, .agg #[.int .i64 65536, .int .i64 1000, .int .i64 0, .int .i64 0, .int .i64 0]] W fun e w' => ∃ b g, e = .returned (.pointer (some ⟨b, 0, none⟩)) ∧ W.heap.size ≤ b ∧ W.heap.size ≤ g ∧ PaAt w' b g (W.heap.size + 3) nilS nilS nilS 2 65536 1000 0 0 0 (pa0 65536) ∧ Below W.heap.size W w')) (HFD1 : Hid (∀ (W : World) (b g B : Nat), PaAt W b g B nilS nilS nilS 2 65536 1000 0 0 0 (pa0 65536) → W.cell? ⟨0, 0, none⟩ = some (.int .i64 mx) → Below w.heap.size w W → Blk W w.heap.size #[.string m, .string t, .int .i64 k, .int .i64 n, .string r, .slice A len cap] 24 → w.heap.size + 1 ≤ b → w.heap.size + 1 ≤ g → Calls Tryz.prog 29 #[.pointer (some ⟨b, 0, none⟩), .string (P ++ ⟨#[120]⟩)] W fun e w' => e = .returned (.tuple #[.int .i64 (P.size : Int), .int .i64 0]) ∧ Below w.heap.size w w' ∧ Blk w' w.heap.size #[.string m, .string t, .int .i64 k, .int .i64 n, .string r, .slice A len cap] 24 ∧ ∃ vl va vf p, PaAt w' b g B vl va vf 2 65536 1000 0 0 0 p ∧ p.hd.fs.length ≤ 1000000 ∧ (p.fin && p.e == 0) = true ∧ doneH p = ⟨m, t, k, n, r, l⟩)) (N2 E2 : Int) (qm qt qr : ByteArray) (qk qn : Int) (qf : List Fd) (HNW2 : Hid (∀ W : World, Calls Tryz.prog 18 #[.int .i64 kind, .agg #[.int .i64 65536, .int .i64 1000, .int .i64 0, .int .i64 0, .int .i64 0]] W fun e w' => ∃ b g, e = .returned (.pointer (some ⟨b, 0, none⟩)) ∧ W.heap.size ≤ b ∧ W.heap.size ≤ g ∧ PaAt w' b g (W.heap.size + 3) nilS nilS nilS kind 65536 1000 0 0 0 (pa0 65536) ∧ Below W.heap.size W w')) (HFD2 : Hid (∀ (W : World) (b g B : Nat), PaAt W b g B nilS nilS nilS kind 65536 1000 0 0 0 (pa0 65536) → W.cell? ⟨0, 0, none⟩ = some (.int .i64 mx) → Below w.heap.size w W → w.heap.size ≤ b → w.heap.size ≤ g → Calls Tryz.prog 29 #[.pointer (some ⟨b, 0, none⟩), .string T] W fun e w' => e = .returned (.tuple #[.int .i64 N2, .int .i64 E2]) ∧ Below w.heap.size w w' ∧ ∃ vl va vf p, PaAt w' b g B vl va vf kind 65536 1000 0 0 0 p ∧ p.hd.fs.length ≤ 1000000 ∧ (p.fin && p.e == 0) = false ∧ (false = true → doneH p = ⟨qm, qt, qk, qn, qr, qf⟩ ∧ ∀ (V : World) (f : Value), Flds V f qf → Calls Tryz.prog 26 #[.agg #[.string qm, .string qt, .int .i64 qk, .int .i64 qn, .string qr, f]] V fun e w' => e = .returned (.bool true) ∧ Below V.heap.size V w'))) :
    Calls Tryz.prog 6 #[.agg #[.string m, .string t, .int .i64 k, .int .i64 n, .string r, .slice A len cap], .int .i64 kind, .string S] w fun e w' => e = .returned (.bool true) ∧ Below w.heap.size w w' := by
  go_enter Tryz.func6, Tryz.ntmps6
  go_wp2_with (first
    | (go_at_call 9; refine HSH.out.mono ?_; rintro e1 w1 ⟨rfl, hb⟩; have HU := Lib.hid (below_one hb); have K1 := Lib.hid ((Blk.new w #[.string m, .string t, .int .i64 k, .int .i64 n, .string r, .slice A len cap] 24).call hb); have x0 := K1.out.cell 0; have x1 := K1.out.cell 1; have x2 := K1.out.cell 2; have x3 := K1.out.cell 3; have x4 := K1.out.cell 4; have x5 := K1.out.cell 5; simp at x0 x1 x2 x3 x4 x5; clear hb HSH)
    | (go_at_call 26; refine (HRT.out _ HU.out).mono ?_; rintro e2 w2 ⟨rfl, hb⟩; have HU := Lib.hid (HU.out.trans (hb.mono HU.out.size)); have K1 := Lib.hid (K1.out.call hb); clear x0 x1 x2 x3 x4 x5; have x0 := K1.out.cell 0; have x1 := K1.out.cell 1; have x2 := K1.out.cell 2; have x3 := K1.out.cell 3; have x4 := K1.out.cell 4; have x5 := K1.out.cell 5; simp at x0 x1 x2 x3 x4 x5; clear hb HRT)
    | (go_at_call 27; refine (HPR.out _ HU.out).mono ?_; rintro e3 w3 ⟨rfl, hb⟩; have HU := Lib.hid (HU.out.trans (hb.mono HU.out.size)); have K1 := Lib.hid (K1.out.call hb); clear x0 x1 x2 x3 x4 x5; clear hb HPR)
    | (go_at_call 28; refine (wide_any _).mono ?_; rintro e4 w4 ⟨rfl, hb⟩; have HU := Lib.hid (HU.out.trans (hb.mono HU.out.size)); have K1 := Lib.hid (K1.out.call hb); (try clear x0 x1 x2 x3 x4 x5); clear hb)
    | (go_at_call 18; refine (HNW1.out _).mono ?_; rintro e5 w5 ⟨b1, g1, rfl, hb1, hg1, hp, hb⟩; have HBG1 := Lib.hid (And.intro (Nat.le_trans (Nat.succ_le_of_lt K1.out.lt) hb1) (Nat.le_trans (Nat.succ_le_of_lt K1.out.lt) hg1)); have HU := Lib.hid (HU.out.trans (hb.mono HU.out.size)); have K1 := Lib.hid (K1.out.call hb); have HP1 := Lib.hid hp; clear hb hp hb1 hg1 HNW1)
    | (go_at_call 29; refine (HFD1.out _ _ _ _ HP1.out (mx_below HM.out HU.out) HU.out K1.out HBG1.out.1 HBG1.out.2).mono ?_; rintro e6 w6 ⟨rfl, hu, hk, vl1, va1, vf1, p1, hp, hln, hdn, hdo⟩; have HU := Lib.hid hu; have K1 := Lib.hid hk; have HP1 := Lib.hid hp; have HI1 := Lib.hid (And.intro hln (And.intro hdn hdo)); clear hu hk hp hln hdn hdo HFD1)
    | (go_at_call 18; refine (HNW2.out _).mono ?_; rintro e7 w7 ⟨b2, g2, rfl, hb2, hg2, hp, hb⟩; have HBG2 := Lib.hid (And.intro (Nat.le_trans HU.out.size hb2) (Nat.le_trans HU.out.size hg2)); have HU := Lib.hid (HU.out.trans (hb.mono HU.out.size)); have HP2 := Lib.hid hp; clear hb hp hb2 hg2 HNW2)
    | (go_at_call 18; refine (HNW2.out _).mono ?_; rintro e7 w7 ⟨rfl, hb⟩; have HU := Lib.hid (HU.out.trans (hb.mono HU.out.size)); clear hb HNW2)
    | (go_at_call 29; refine (HFD2.out _ _ _ _ HP2.out (mx_below HM.out HU.out) HU.out HBG2.out.1 HBG2.out.2).mono ?_; rintro e8 w8 ⟨rfl, hu, vl2, va2, vf2, p2, hp, hln, hdn, hri⟩; have HU := Lib.hid hu; have hd := hdone_any hp; rw [hdn] at hd; have HDC2 := Lib.hid hd; have HRI := Lib.hid hri; have HHC2 := Lib.hid (hhead_any hp hln); clear hu hp hln hdn hri hd HFD2)
    | (go_at_call 22; refine HDC2.out.mono ?_; rintro e9 w9 ⟨rfl, h9⟩; subst h9; clear HDC2)
    | (go_at_call 24; have hh := HHC2.out; rw [(HRI.out (by trivial)).1] at hh; refine hh.mono ?_; clear hh; rintro eA wA ⟨fA, rfl, hoA, hb⟩; obtain ⟨pA, cA, rfl⟩ := own_slice hoA; simp only [Hd.row] at hoA ⊢; have HFA := Lib.hid hoA.flds; have HU := Lib.hid (HU.out.trans (hb.mono HU.out.size)); clear hoA hb HHC2)
    | (go_at_call 26; refine ((HRI.out (by trivial)).2 _ _ HFA.out).mono ?_; rintro eB wB ⟨rfl, hb⟩; have HU := Lib.hid (HU.out.trans (hb.mono HU.out.size)); clear hb)
    | (go_at_call 19; refine (hlives_any _ (mx_below HM.out HU.out)).mono ?_; rintro eC wC ⟨rfl, hb⟩; have HU := Lib.hid (HU.out.trans (hb.mono HU.out.size)); clear hb))
  refine wp_region_at (S := fun v => Blk v w.heap.size #[.string m, .string t, .int .i64 k, .int .i64 n, .string r, .slice A len cap] 24) (by kernel_rfl) ?_
  intro V0 hV0
  have h0 := K1.out.drew
  have hp0 := HP1.out.drew
  have hu0 := HU.out.drew
  rw [← hV0] at h0 hp0 hu0
  have hd0 := hdone_any hp0
  rw [HI1.out.2.1] at hd0
  have HDC := Lib.hid hd0
  have hh0 := hhead_any hp0 HI1.out.1
  rw [HI1.out.2.2] at hh0
  have HHC := Lib.hid hh0
  have HU0 := Lib.hid hu0
  have HSM := Lib.hid (fun (W : World) (f f' : Value) (h1 : Flds W f l) (h2 : Flds W f' l) => hsame_self ⟨m, t, k, n, r, l⟩ f f' W h1 h2 HL.out.2)
  simp only [Hd.row] at HSM
  clear hV0 hp0 hu0 hd0 hh0 HP1 HI1 HU K1 HBG1
  refine wpAnyH_take (i := 0) (v := .int .i64 (P.size : Int)) rfl (by kernel_rfl) (by kernel_rfl) (by kernel_rfl) (fun _ _ _ h => h) (Or.inl ⟨by kernel_rfl, ?hy52⟩) h0 ?rest52
  case hy52 =>
    intro v hv
    clear hv
    go_simp
  (try simp only [Act.put, List.setIfInBounds_toArray, List.set_cons_zero, List.set_cons_succ])
  refine wpAnyH_take (i := 1) (v := .string P) rfl (by kernel_rfl) (by kernel_rfl) (by kernel_rfl) (fun _ _ _ h => h) (Or.inl ⟨by kernel_rfl, ?hy53⟩) h0 ?rest53
  case hy53 =>
    intro v hv
    clear hv
    go_simp
  (try simp only [Act.put, List.setIfInBounds_toArray, List.set_cons_zero, List.set_cons_succ])
  refine wpAnyH_take (i := 2) (v := .int .i64 (P.size : Int)) rfl (by kernel_rfl) (by kernel_rfl) (by kernel_rfl) (fun _ _ _ h => h) (Or.inl ⟨by kernel_rfl, ?hy54⟩) h0 ?rest54
  case hy54 =>
    intro v hv
    clear hv
    go_simp
  (try simp only [Act.put, List.setIfInBounds_toArray, List.set_cons_zero, List.set_cons_succ])
  refine wpAnyH_take (i := 3) (v := .bool false) rfl (by kernel_rfl) (by kernel_rfl) (by kernel_rfl) (fun _ _ _ h => h) (Or.inl ⟨by kernel_rfl, ?hy55⟩) h0 ?rest55
  case hy55 =>
    intro v hv
    clear hv
    go_simp
  (try simp only [Act.put, List.setIfInBounds_toArray, List.set_cons_zero, List.set_cons_succ])
  refine wpAnyH_take (i := 4) (v := .bool false) rfl (by kernel_rfl) (by kernel_rfl) (by kernel_rfl) (fun _ _ _ h => h) (Or.inl ⟨by kernel_rfl, ?hy56⟩) h0 ?rest56
  case hy56 =>
    intro v hv
    clear hv
    go_simp
  (try simp only [Act.put, List.setIfInBounds_toArray, List.set_cons_zero, List.set_cons_succ])
  refine wpAnyH_take (i := 5) (v := .int .i64 0) rfl (by kernel_rfl) (by kernel_rfl) (by kernel_rfl) (fun _ _ _ h => h) (Or.inl ⟨by kernel_rfl, ?hy57⟩) h0 ?rest57
  case hy57 =>
    intro v hv
    clear hv
    go_simp
  (try simp only [Act.put, List.setIfInBounds_toArray, List.set_cons_zero, List.set_cons_succ])
  refine wpAnyH_take (i := 6) (v := .bool false) rfl (by kernel_rfl) (by kernel_rfl) (by kernel_rfl) (fun _ _ _ h => h) (Or.inl ⟨by kernel_rfl, ?hy58⟩) h0 ?rest58
  case hy58 =>
    intro v hv
    clear hv
    go_simp
  (try simp only [Act.put, List.setIfInBounds_toArray, List.set_cons_zero, List.set_cons_succ])
  refine wpAnyH_take (i := 7) (v := .bool false) rfl (by kernel_rfl) (by kernel_rfl) (by kernel_rfl) (fun _ _ _ h => h) (Or.inl ⟨by kernel_rfl, ?hy59⟩) h0 ?rest59
  case hy59 =>
    intro v hv
    clear hv
    go_simp
  (try simp only [Act.put, List.setIfInBounds_toArray, List.set_cons_zero, List.set_cons_succ])
  refine wpAnyH_take (i := 8) (v := .bool false) rfl (by kernel_rfl) (by kernel_rfl) (by kernel_rfl) (fun _ _ _ h => h) (Or.inl ⟨by kernel_rfl, ?hy60⟩) h0 ?rest60
  case hy60 =>
    intro v hv
    clear hv
    go_simp
  (try simp only [Act.put, List.setIfInBounds_toArray, List.set_cons_zero, List.set_cons_succ])
  refine wpAnyH_take (i := 9) (v := .pointer (some ⟨b1, 0, none⟩)) rfl (by kernel_rfl) (by kernel_rfl) (by kernel_rfl) (fun _ _ _ h => h) (Or.inl ⟨by kernel_rfl, ?hy61⟩) h0 ?rest61
  case hy61 =>
    intro v hv
    clear hv
    go_simp
  (try simp only [Act.put, List.setIfInBounds_toArray, List.set_cons_zero, List.set_cons_succ])
  refine wpAnyH_ready (rs := [10]) (by kernel_rfl) (by simp) ?_
  refine AllReadyH.cons rfl (fun K hK => ?_) AllReadyH.nil
  go_simp
  refine HDC.out.mono ?_
  rintro e V1 ⟨rfl, h1⟩
  subst h1
  refine hK _ _ h0 (fun _ => ?_)
  clear hK K HDC
  (try simp only [Act.put, List.setIfInBounds_toArray, List.set_cons_zero, List.set_cons_succ])
  refine wpAnyH_take (i := 11) (v := .bool false) rfl (by kernel_rfl) (by kernel_rfl) (by kernel_rfl) (fun _ _ _ h => h) (Or.inl ⟨by kernel_rfl, ?hy62⟩) h0 ?rest62
  case hy62 =>
    intro v hv
    clear hv
    go_simp
  (try simp only [Act.put, List.setIfInBounds_toArray, List.set_cons_zero, List.set_cons_succ])
  refine wpAnyH_take (i := 12) (v := .bool false) rfl (by kernel_rfl) (by kernel_rfl) (by kernel_rfl) (fun _ _ _ h => h) (Or.inl ⟨by kernel_rfl, ?hy63⟩) h0 ?rest63
  case hy63 =>
    intro v hv
    clear hv
    go_simp
  (try simp only [Act.put, List.setIfInBounds_toArray, List.set_cons_zero, List.set_cons_succ])
  refine wpAnyH_take (i := 13) (v := .bool false) rfl (by kernel_rfl) (by kernel_rfl) (by kernel_rfl) (fun _ _ _ h => h) (Or.inl ⟨by kernel_rfl, ?hy64⟩) h0 ?rest64
  case hy64 =>
    intro v hv
    clear hv
    go_simp
  (try simp only [Act.put, List.setIfInBounds_toArray, List.set_cons_zero, List.set_cons_succ])
  refine wpAnyH_take (i := 14) (v := .pointer (some ⟨b1, 0, none⟩)) rfl (by kernel_rfl) (by kernel_rfl) (by kernel_rfl) (fun _ _ _ h => h) (Or.inl ⟨by kernel_rfl, ?hy65⟩) h0 ?rest65
  case hy65 =>
    intro v hv
    clear hv
    go_simp
  (try simp only [Act.put, List.setIfInBounds_toArray, List.set_cons_zero, List.set_cons_succ])
  refine wpAnyH_take (i := 16) (v := .agg #[.string m, .string t, .int .i64 k, .int .i64 n, .string r, .slice A len cap]) rfl (by kernel_rfl) (by kernel_rfl) (by kernel_rfl) (fun _ _ _ h => h) (Or.inl ⟨by kernel_rfl, ?hy66⟩) h0 ?rest66
  case hy66 =>
    intro v hv
    have k0 := hv.cell 0
    have k1 := hv.cell 1
    have k2 := hv.cell 2
    have k3 := hv.cell 3
    have k4 := hv.cell 4
    have k5 := hv.cell 5
    simp at k0 k1 k2 k3 k4 k5
    clear hv
    go_simp
  (try simp only [Act.put, List.setIfInBounds_toArray, List.set_cons_zero, List.set_cons_succ])
  refine wpAnyH_ready (rs := [15]) (by kernel_rfl) (by simp) ?_
  refine AllReadyH.cons rfl (fun K hK => ?_) AllReadyH.nil
  go_simp
  refine HHC.out.mono ?_
  rintro e V1 ⟨f6, rfl, ho6, hb6⟩
  obtain ⟨p6, c6, rfl⟩ := own_slice ho6
  simp only [Hd.row] at ho6 ⊢
  have h1 := h0.call hb6
  have HF6 := Lib.hid ho6.flds
  have HU1 := Lib.hid (HU0.out.trans (hb6.mono HU0.out.size))
  have HF1 := Lib.hid ((flds_of (cap := cap) HL.out.1).below HU1.out)
  clear ho6 hb6 h0 HHC
  refine hK _ _ h1 (fun _ => ?_)
  clear hK K
  (try simp only [Act.put, List.setIfInBounds_toArray, List.set_cons_zero, List.set_cons_succ])
  refine wpAnyH_ready (rs := [17]) (by kernel_rfl) (by simp) ?_
  refine AllReadyH.cons rfl (fun K hK => ?_) AllReadyH.nil
  go_simp
  refine (HSM.out _ _ _ HF6.out HF1.out).mono ?_
  rintro e V2 ⟨rfl, hb7⟩
  have h2 := h1.call hb7
  have HU := Lib.hid (HU1.out.trans (hb7.mono HU1.out.size))
  clear hb7 h1 HSM
  refine hK _ _ h2 (fun _ => ?_)
  clear hK K
  (try simp only [Act.put, List.setIfInBounds_toArray, List.set_cons_zero, List.set_cons_succ])
  refine wpAnyH_take (i := 18) (v := .bool false) rfl (by kernel_rfl) (by kernel_rfl) (by kernel_rfl) (fun _ _ _ h => h) (Or.inl ⟨by kernel_rfl, ?hy67⟩) h2 ?rest67
  case hy67 =>
    intro v hv
    clear hv
    go_simp
  (try simp only [Act.put, List.setIfInBounds_toArray, List.set_cons_zero, List.set_cons_succ])
  refine wpAnyH_take (i := 19) (v := .bool false) rfl (by kernel_rfl) (by kernel_rfl) (by kernel_rfl) (fun _ _ _ h => h) (Or.inl ⟨by kernel_rfl, ?hy68⟩) h2 ?rest68
  case hy68 =>
    intro v hv
    clear hv
    go_simp
  (try simp only [Act.put, List.setIfInBounds_toArray, List.set_cons_zero, List.set_cons_succ])
  refine wpAnyH_done (by kernel_rfl) ?_ _
  have K1 := Lib.hid h2
  clear h2
  go_wp2_with (first
    | (go_at_call 9; refine HSH.out.mono ?_; rintro e1 w1 ⟨rfl, hb⟩; have HU := Lib.hid (below_one hb); have K1 := Lib.hid ((Blk.new w #[.string m, .string t, .int .i64 k, .int .i64 n, .string r, .slice A len cap] 24).call hb); have x0 := K1.out.cell 0; have x1 := K1.out.cell 1; have x2 := K1.out.cell 2; have x3 := K1.out.cell 3; have x4 := K1.out.cell 4; have x5 := K1.out.cell 5; simp at x0 x1 x2 x3 x4 x5; clear hb HSH)
    | (go_at_call 26; refine (HRT.out _ HU.out).mono ?_; rintro e2 w2 ⟨rfl, hb⟩; have HU := Lib.hid (HU.out.trans (hb.mono HU.out.size)); have K1 := Lib.hid (K1.out.call hb); clear x0 x1 x2 x3 x4 x5; have x0 := K1.out.cell 0; have x1 := K1.out.cell 1; have x2 := K1.out.cell 2; have x3 := K1.out.cell 3; have x4 := K1.out.cell 4; have x5 := K1.out.cell 5; simp at x0 x1 x2 x3 x4 x5; clear hb HRT)
    | (go_at_call 27; refine (HPR.out _ HU.out).mono ?_; rintro e3 w3 ⟨rfl, hb⟩; have HU := Lib.hid (HU.out.trans (hb.mono HU.out.size)); have K1 := Lib.hid (K1.out.call hb); clear x0 x1 x2 x3 x4 x5; clear hb HPR)
    | (go_at_call 28; refine (wide_any _).mono ?_; rintro e4 w4 ⟨rfl, hb⟩; have HU := Lib.hid (HU.out.trans (hb.mono HU.out.size)); have K1 := Lib.hid (K1.out.call hb); (try clear x0 x1 x2 x3 x4 x5); clear hb)
    | (go_at_call 18; refine (HNW1.out _).mono ?_; rintro e5 w5 ⟨b1, g1, rfl, hb1, hg1, hp, hb⟩; have HBG1 := Lib.hid (And.intro (Nat.le_trans (Nat.succ_le_of_lt K1.out.lt) hb1) (Nat.le_trans (Nat.succ_le_of_lt K1.out.lt) hg1)); have HU := Lib.hid (HU.out.trans (hb.mono HU.out.size)); have K1 := Lib.hid (K1.out.call hb); have HP1 := Lib.hid hp; clear hb hp hb1 hg1 HNW1)
    | (go_at_call 29; refine (HFD1.out _ _ _ _ HP1.out (mx_below HM.out HU.out) HU.out K1.out HBG1.out.1 HBG1.out.2).mono ?_; rintro e6 w6 ⟨rfl, hu, hk, vl1, va1, vf1, p1, hp, hln, hdn, hdo⟩; have HU := Lib.hid hu; have K1 := Lib.hid hk; have HP1 := Lib.hid hp; have HI1 := Lib.hid (And.intro hln (And.intro hdn hdo)); clear hu hk hp hln hdn hdo HFD1)
    | (go_at_call 18; refine (HNW2.out _).mono ?_; rintro e7 w7 ⟨b2, g2, rfl, hb2, hg2, hp, hb⟩; have HBG2 := Lib.hid (And.intro (Nat.le_trans HU.out.size hb2) (Nat.le_trans HU.out.size hg2)); have HU := Lib.hid (HU.out.trans (hb.mono HU.out.size)); have HP2 := Lib.hid hp; clear hb hp hb2 hg2 HNW2)
    | (go_at_call 18; refine (HNW2.out _).mono ?_; rintro e7 w7 ⟨rfl, hb⟩; have HU := Lib.hid (HU.out.trans (hb.mono HU.out.size)); clear hb HNW2)
    | (go_at_call 29; refine (HFD2.out _ _ _ _ HP2.out (mx_below HM.out HU.out) HU.out HBG2.out.1 HBG2.out.2).mono ?_; rintro e8 w8 ⟨rfl, hu, vl2, va2, vf2, p2, hp, hln, hdn, hri⟩; have HU := Lib.hid hu; have hd := hdone_any hp; rw [hdn] at hd; have HDC2 := Lib.hid hd; have HRI := Lib.hid hri; have HHC2 := Lib.hid (hhead_any hp hln); clear hu hp hln hdn hri hd HFD2)
    | (go_at_call 22; refine HDC2.out.mono ?_; rintro e9 w9 ⟨rfl, h9⟩; subst h9; clear HDC2)
    | (go_at_call 24; have hh := HHC2.out; rw [(HRI.out (by trivial)).1] at hh; refine hh.mono ?_; clear hh; rintro eA wA ⟨fA, rfl, hoA, hb⟩; obtain ⟨pA, cA, rfl⟩ := own_slice hoA; simp only [Hd.row] at hoA ⊢; have HFA := Lib.hid hoA.flds; have HU := Lib.hid (HU.out.trans (hb.mono HU.out.size)); clear hoA hb HHC2)
    | (go_at_call 26; refine ((HRI.out (by trivial)).2 _ _ HFA.out).mono ?_; rintro eB wB ⟨rfl, hb⟩; have HU := Lib.hid (HU.out.trans (hb.mono HU.out.size)); clear hb)
    | (go_at_call 19; refine (hlives_any _ (mx_below HM.out HU.out)).mono ?_; rintro eC wC ⟨rfl, hb⟩; have HU := Lib.hid (HU.out.trans (hb.mono HU.out.size)); clear hb))
  go_ret
  exact ⟨rfl, HU.out⟩
set_option maxRecDepth 100000 in
set_option maxHeartbeats 8000000 in
theorem hback_q0t (w : World) {A : Option Addr} {len cap : Nat} {l : List Fd} (m t r : ByteArray) (k n kind : Int) (S T : ByteArray) {mx : Int} (HM : Hid (w.cell? ⟨0, 0, none⟩ = some (.int .i64 mx))) (K0 : Nat) (hmin : min (S.size : Int) 2000 = (K0 : Int)) (hsl : ∀ W : World, (Instr.slice 9 (.string S) none (some (.int .i64 (K0 : Int))) none).run Tryz.prog W = .ok (.string T) W)
    (HSH : Hid (Calls Tryz.prog 9 #[.agg #[.string m, .string t, .int .i64 k, .int .i64 n, .string r, .slice A len cap]] (w.alloc (.cells #[.string m, .string t, .int .i64 k, .int .i64 n, .string r, .slice A len cap] 24)) fun e w' => e = .returned (.bool true) ∧ Below (w.alloc (.cells #[.string m, .string t, .int .i64 k, .int .i64 n, .string r, .slice A len cap] 24)).heap.size (w.alloc (.cells #[.string m, .string t, .int .i64 k, .int .i64 n, .string r, .slice A len cap] 24)) w'))
    (HRT : Hid (∀ W, Below w.heap.size w W → Calls Tryz.prog 26 #[.agg #[.string m, .string t, .int .i64 k, .int .i64 n, .string r, .slice A len cap]] W fun e w' => e = .returned (.bool false) ∧ Below W.heap.size W w')) (N2 E2 : Int) (qm qt qr : ByteArray) (qk qn : Int) (qf : List Fd) (HNW2 : Hid (∀ W : World, Calls Tryz.prog 18 #[.int .i64 kind, .agg #[.int .i64 65536, .int .i64 1000, .int .i64 0, .int .i64 0, .int .i64 0]] W fun e w' => ∃ b g, e = .returned (.pointer (some ⟨b, 0, none⟩)) ∧ W.heap.size ≤ b ∧ W.heap.size ≤ g ∧ PaAt w' b g (W.heap.size + 3) nilS nilS nilS kind 65536 1000 0 0 0 (pa0 65536) ∧ Below W.heap.size W w')) (HFD2 : Hid (∀ (W : World) (b g B : Nat), PaAt W b g B nilS nilS nilS kind 65536 1000 0 0 0 (pa0 65536) → W.cell? ⟨0, 0, none⟩ = some (.int .i64 mx) → Below w.heap.size w W → w.heap.size ≤ b → w.heap.size ≤ g → Calls Tryz.prog 29 #[.pointer (some ⟨b, 0, none⟩), .string T] W fun e w' => e = .returned (.tuple #[.int .i64 N2, .int .i64 E2]) ∧ Below w.heap.size w w' ∧ ∃ vl va vf p, PaAt w' b g B vl va vf kind 65536 1000 0 0 0 p ∧ p.hd.fs.length ≤ 1000000 ∧ (p.fin && p.e == 0) = true ∧ (true = true → doneH p = ⟨qm, qt, qk, qn, qr, qf⟩ ∧ ∀ (V : World) (f : Value), Flds V f qf → Calls Tryz.prog 26 #[.agg #[.string qm, .string qt, .int .i64 qk, .int .i64 qn, .string qr, f]] V fun e w' => e = .returned (.bool true) ∧ Below V.heap.size V w'))) :
    Calls Tryz.prog 6 #[.agg #[.string m, .string t, .int .i64 k, .int .i64 n, .string r, .slice A len cap], .int .i64 kind, .string S] w fun e w' => e = .returned (.bool true) ∧ Below w.heap.size w w' := by
  go_enter Tryz.func6, Tryz.ntmps6
  go_wp2_with (first
    | (go_at_call 9; refine HSH.out.mono ?_; rintro e1 w1 ⟨rfl, hb⟩; have HU := Lib.hid (below_one hb); have K1 := Lib.hid ((Blk.new w #[.string m, .string t, .int .i64 k, .int .i64 n, .string r, .slice A len cap] 24).call hb); have x0 := K1.out.cell 0; have x1 := K1.out.cell 1; have x2 := K1.out.cell 2; have x3 := K1.out.cell 3; have x4 := K1.out.cell 4; have x5 := K1.out.cell 5; simp at x0 x1 x2 x3 x4 x5; clear hb HSH)
    | (go_at_call 26; refine (HRT.out _ HU.out).mono ?_; rintro e2 w2 ⟨rfl, hb⟩; have HU := Lib.hid (HU.out.trans (hb.mono HU.out.size)); have K1 := Lib.hid (K1.out.call hb); clear x0 x1 x2 x3 x4 x5; have x0 := K1.out.cell 0; have x1 := K1.out.cell 1; have x2 := K1.out.cell 2; have x3 := K1.out.cell 3; have x4 := K1.out.cell 4; have x5 := K1.out.cell 5; simp at x0 x1 x2 x3 x4 x5; clear hb HRT)
    | (go_at_call 27; refine (HPR.out _ HU.out).mono ?_; rintro e3 w3 ⟨rfl, hb⟩; have HU := Lib.hid (HU.out.trans (hb.mono HU.out.size)); have K1 := Lib.hid (K1.out.call hb); clear x0 x1 x2 x3 x4 x5; clear hb HPR)
    | (go_at_call 28; refine (wide_any _).mono ?_; rintro e4 w4 ⟨rfl, hb⟩; have HU := Lib.hid (HU.out.trans (hb.mono HU.out.size)); have K1 := Lib.hid (K1.out.call hb); (try clear x0 x1 x2 x3 x4 x5); clear hb)
    | (go_at_call 18; refine (HNW1.out _).mono ?_; rintro e5 w5 ⟨b1, g1, rfl, hb1, hg1, hp, hb⟩; have HBG1 := Lib.hid (And.intro (Nat.le_trans (Nat.succ_le_of_lt K1.out.lt) hb1) (Nat.le_trans (Nat.succ_le_of_lt K1.out.lt) hg1)); have HU := Lib.hid (HU.out.trans (hb.mono HU.out.size)); have K1 := Lib.hid (K1.out.call hb); have HP1 := Lib.hid hp; clear hb hp hb1 hg1 HNW1)
    | (go_at_call 29; refine (HFD1.out _ _ _ _ HP1.out (mx_below HM.out HU.out) HU.out K1.out HBG1.out.1 HBG1.out.2).mono ?_; rintro e6 w6 ⟨rfl, hu, hk, vl1, va1, vf1, p1, hp, hln, hdn, hdo⟩; have HU := Lib.hid hu; have K1 := Lib.hid hk; have HP1 := Lib.hid hp; have HI1 := Lib.hid (And.intro hln (And.intro hdn hdo)); clear hu hk hp hln hdn hdo HFD1)
    | (go_at_call 18; refine (HNW2.out _).mono ?_; rintro e7 w7 ⟨b2, g2, rfl, hb2, hg2, hp, hb⟩; have HBG2 := Lib.hid (And.intro (Nat.le_trans HU.out.size hb2) (Nat.le_trans HU.out.size hg2)); have HU := Lib.hid (HU.out.trans (hb.mono HU.out.size)); have HP2 := Lib.hid hp; clear hb hp hb2 hg2 HNW2)
    | (go_at_call 18; refine (HNW2.out _).mono ?_; rintro e7 w7 ⟨rfl, hb⟩; have HU := Lib.hid (HU.out.trans (hb.mono HU.out.size)); clear hb HNW2)
    | (go_at_call 29; refine (HFD2.out _ _ _ _ HP2.out (mx_below HM.out HU.out) HU.out HBG2.out.1 HBG2.out.2).mono ?_; rintro e8 w8 ⟨rfl, hu, vl2, va2, vf2, p2, hp, hln, hdn, hri⟩; have HU := Lib.hid hu; have hd := hdone_any hp; rw [hdn] at hd; have HDC2 := Lib.hid hd; have HRI := Lib.hid hri; have HHC2 := Lib.hid (hhead_any hp hln); clear hu hp hln hdn hri hd HFD2)
    | (go_at_call 22; refine HDC2.out.mono ?_; rintro e9 w9 ⟨rfl, h9⟩; subst h9; clear HDC2)
    | (go_at_call 24; have hh := HHC2.out; rw [(HRI.out (by trivial)).1] at hh; refine hh.mono ?_; clear hh; rintro eA wA ⟨fA, rfl, hoA, hb⟩; obtain ⟨pA, cA, rfl⟩ := own_slice hoA; simp only [Hd.row] at hoA ⊢; have HFA := Lib.hid hoA.flds; have HU := Lib.hid (HU.out.trans (hb.mono HU.out.size)); clear hoA hb HHC2)
    | (go_at_call 26; refine ((HRI.out (by trivial)).2 _ _ HFA.out).mono ?_; rintro eB wB ⟨rfl, hb⟩; have HU := Lib.hid (HU.out.trans (hb.mono HU.out.size)); clear hb)
    | (go_at_call 19; refine (hlives_any _ (mx_below HM.out HU.out)).mono ?_; rintro eC wC ⟨rfl, hb⟩; have HU := Lib.hid (HU.out.trans (hb.mono HU.out.size)); clear hb))
  go_ret
  exact ⟨rfl, HU.out⟩
set_option maxRecDepth 100000 in
set_option maxHeartbeats 8000000 in
theorem hback_m1t (w : World) {A : Option Addr} {len cap : Nat} {l : List Fd} (m t r : ByteArray) (k n kind : Int) (S T : ByteArray) {mx : Int} (HM : Hid (w.cell? ⟨0, 0, none⟩ = some (.int .i64 mx))) (K0 : Nat) (hmin : min (S.size : Int) 2000 = (K0 : Int)) (hsl : ∀ W : World, (Instr.slice 9 (.string S) none (some (.int .i64 (K0 : Int))) none).run Tryz.prog W = .ok (.string T) W)
    (HSH : Hid (Calls Tryz.prog 9 #[.agg #[.string m, .string t, .int .i64 k, .int .i64 n, .string r, .slice A len cap]] (w.alloc (.cells #[.string m, .string t, .int .i64 k, .int .i64 n, .string r, .slice A len cap] 24)) fun e w' => e = .returned (.bool true) ∧ Below (w.alloc (.cells #[.string m, .string t, .int .i64 k, .int .i64 n, .string r, .slice A len cap] 24)).heap.size (w.alloc (.cells #[.string m, .string t, .int .i64 k, .int .i64 n, .string r, .slice A len cap] 24)) w'))
    (HRT : Hid (∀ W, Below w.heap.size w W → Calls Tryz.prog 26 #[.agg #[.string m, .string t, .int .i64 k, .int .i64 n, .string r, .slice A len cap]] W fun e w' => e = .returned (.bool true) ∧ Below W.heap.size W w')) (P : ByteArray) (hPs : P.size ≤ 1000000) (HL : Hid (Fds w A len l ∧ l.length ≤ 1000000)) (he : m.toList.isEmpty = false) (HPR : Hid (∀ W, Below w.heap.size w W → Calls Tryz.prog 27 #[.agg #[.string m, .string t, .int .i64 k, .int .i64 n, .string r, .slice A len cap]] W fun e w' => e = .returned (.string P) ∧ Below W.heap.size W w')) (HNW1 : Hid (∀ W : World, Calls Tryz.prog 18 #[.int .i64 1, .agg #[.int .i64 65536, .int .i64 1000, .int .i64 0, .int .i64 0, .int .i64 0]] W fun e w' => ∃ b g, e = .returned (.pointer (some ⟨b, 0, none⟩)) ∧ W.heap.size ≤ b ∧ W.heap.size ≤ g ∧ PaAt w' b g (W.heap.size + 3) nilS nilS nilS 1 65536 1000 0 0 0 (pa0 65536) ∧ Below W.heap.size W w')) (HFD1 : Hid (∀ (W : World) (b g B : Nat), PaAt W b g B nilS nilS nilS 1 65536 1000 0 0 0 (pa0 65536) → W.cell? ⟨0, 0, none⟩ = some (.int .i64 mx) → Below w.heap.size w W → Blk W w.heap.size #[.string m, .string t, .int .i64 k, .int .i64 n, .string r, .slice A len cap] 24 → w.heap.size + 1 ≤ b → w.heap.size + 1 ≤ g → Calls Tryz.prog 29 #[.pointer (some ⟨b, 0, none⟩), .string (P ++ ⟨#[120]⟩)] W fun e w' => e = .returned (.tuple #[.int .i64 (P.size : Int), .int .i64 0]) ∧ Below w.heap.size w w' ∧ Blk w' w.heap.size #[.string m, .string t, .int .i64 k, .int .i64 n, .string r, .slice A len cap] 24 ∧ ∃ vl va vf p, PaAt w' b g B vl va vf 1 65536 1000 0 0 0 p ∧ p.hd.fs.length ≤ 1000000 ∧ (p.fin && p.e == 0) = true ∧ doneH p = ⟨m, t, k, n, r, l⟩)) (N2 E2 : Int) (qm qt qr : ByteArray) (qk qn : Int) (qf : List Fd) (HNW2 : Hid (∀ W : World, Calls Tryz.prog 18 #[.int .i64 kind, .agg #[.int .i64 65536, .int .i64 1000, .int .i64 0, .int .i64 0, .int .i64 0]] W fun e w' => ∃ b g, e = .returned (.pointer (some ⟨b, 0, none⟩)) ∧ W.heap.size ≤ b ∧ W.heap.size ≤ g ∧ PaAt w' b g (W.heap.size + 3) nilS nilS nilS kind 65536 1000 0 0 0 (pa0 65536) ∧ Below W.heap.size W w')) (HFD2 : Hid (∀ (W : World) (b g B : Nat), PaAt W b g B nilS nilS nilS kind 65536 1000 0 0 0 (pa0 65536) → W.cell? ⟨0, 0, none⟩ = some (.int .i64 mx) → Below w.heap.size w W → w.heap.size ≤ b → w.heap.size ≤ g → Calls Tryz.prog 29 #[.pointer (some ⟨b, 0, none⟩), .string T] W fun e w' => e = .returned (.tuple #[.int .i64 N2, .int .i64 E2]) ∧ Below w.heap.size w w' ∧ ∃ vl va vf p, PaAt w' b g B vl va vf kind 65536 1000 0 0 0 p ∧ p.hd.fs.length ≤ 1000000 ∧ (p.fin && p.e == 0) = true ∧ (true = true → doneH p = ⟨qm, qt, qk, qn, qr, qf⟩ ∧ ∀ (V : World) (f : Value), Flds V f qf → Calls Tryz.prog 26 #[.agg #[.string qm, .string qt, .int .i64 qk, .int .i64 qn, .string qr, f]] V fun e w' => e = .returned (.bool true) ∧ Below V.heap.size V w'))) :
    Calls Tryz.prog 6 #[.agg #[.string m, .string t, .int .i64 k, .int .i64 n, .string r, .slice A len cap], .int .i64 kind, .string S] w fun e w' => e = .returned (.bool true) ∧ Below w.heap.size w w' := by
  go_enter Tryz.func6, Tryz.ntmps6
  go_wp2_with (first
    | (go_at_call 9; refine HSH.out.mono ?_; rintro e1 w1 ⟨rfl, hb⟩; have HU := Lib.hid (below_one hb); have K1 := Lib.hid ((Blk.new w #[.string m, .string t, .int .i64 k, .int .i64 n, .string r, .slice A len cap] 24).call hb); have x0 := K1.out.cell 0; have x1 := K1.out.cell 1; have x2 := K1.out.cell 2; have x3 := K1.out.cell 3; have x4 := K1.out.cell 4; have x5 := K1.out.cell 5; simp at x0 x1 x2 x3 x4 x5; clear hb HSH)
    | (go_at_call 26; refine (HRT.out _ HU.out).mono ?_; rintro e2 w2 ⟨rfl, hb⟩; have HU := Lib.hid (HU.out.trans (hb.mono HU.out.size)); have K1 := Lib.hid (K1.out.call hb); clear x0 x1 x2 x3 x4 x5; have x0 := K1.out.cell 0; have x1 := K1.out.cell 1; have x2 := K1.out.cell 2; have x3 := K1.out.cell 3; have x4 := K1.out.cell 4; have x5 := K1.out.cell 5; simp at x0 x1 x2 x3 x4 x5; clear hb HRT)
    | (go_at_call 27; refine (HPR.out _ HU.out).mono ?_; rintro e3 w3 ⟨rfl, hb⟩; have HU := Lib.hid (HU.out.trans (hb.mono HU.out.size)); have K1 := Lib.hid (K1.out.call hb); clear x0 x1 x2 x3 x4 x5; clear hb HPR)
    | (go_at_call 28; refine (wide_any _).mono ?_; rintro e4 w4 ⟨rfl, hb⟩; have HU := Lib.hid (HU.out.trans (hb.mono HU.out.size)); have K1 := Lib.hid (K1.out.call hb); (try clear x0 x1 x2 x3 x4 x5); clear hb)
    | (go_at_call 18; refine (HNW1.out _).mono ?_; rintro e5 w5 ⟨b1, g1, rfl, hb1, hg1, hp, hb⟩; have HBG1 := Lib.hid (And.intro (Nat.le_trans (Nat.succ_le_of_lt K1.out.lt) hb1) (Nat.le_trans (Nat.succ_le_of_lt K1.out.lt) hg1)); have HU := Lib.hid (HU.out.trans (hb.mono HU.out.size)); have K1 := Lib.hid (K1.out.call hb); have HP1 := Lib.hid hp; clear hb hp hb1 hg1 HNW1)
    | (go_at_call 29; refine (HFD1.out _ _ _ _ HP1.out (mx_below HM.out HU.out) HU.out K1.out HBG1.out.1 HBG1.out.2).mono ?_; rintro e6 w6 ⟨rfl, hu, hk, vl1, va1, vf1, p1, hp, hln, hdn, hdo⟩; have HU := Lib.hid hu; have K1 := Lib.hid hk; have HP1 := Lib.hid hp; have HI1 := Lib.hid (And.intro hln (And.intro hdn hdo)); clear hu hk hp hln hdn hdo HFD1)
    | (go_at_call 18; refine (HNW2.out _).mono ?_; rintro e7 w7 ⟨b2, g2, rfl, hb2, hg2, hp, hb⟩; have HBG2 := Lib.hid (And.intro (Nat.le_trans HU.out.size hb2) (Nat.le_trans HU.out.size hg2)); have HU := Lib.hid (HU.out.trans (hb.mono HU.out.size)); have HP2 := Lib.hid hp; clear hb hp hb2 hg2 HNW2)
    | (go_at_call 18; refine (HNW2.out _).mono ?_; rintro e7 w7 ⟨rfl, hb⟩; have HU := Lib.hid (HU.out.trans (hb.mono HU.out.size)); clear hb HNW2)
    | (go_at_call 29; refine (HFD2.out _ _ _ _ HP2.out (mx_below HM.out HU.out) HU.out HBG2.out.1 HBG2.out.2).mono ?_; rintro e8 w8 ⟨rfl, hu, vl2, va2, vf2, p2, hp, hln, hdn, hri⟩; have HU := Lib.hid hu; have hd := hdone_any hp; rw [hdn] at hd; have HDC2 := Lib.hid hd; have HRI := Lib.hid hri; have HHC2 := Lib.hid (hhead_any hp hln); clear hu hp hln hdn hri hd HFD2)
    | (go_at_call 22; refine HDC2.out.mono ?_; rintro e9 w9 ⟨rfl, h9⟩; subst h9; clear HDC2)
    | (go_at_call 24; have hh := HHC2.out; rw [(HRI.out (by trivial)).1] at hh; refine hh.mono ?_; clear hh; rintro eA wA ⟨fA, rfl, hoA, hb⟩; obtain ⟨pA, cA, rfl⟩ := own_slice hoA; simp only [Hd.row] at hoA ⊢; have HFA := Lib.hid hoA.flds; have HU := Lib.hid (HU.out.trans (hb.mono HU.out.size)); clear hoA hb HHC2)
    | (go_at_call 26; refine ((HRI.out (by trivial)).2 _ _ HFA.out).mono ?_; rintro eB wB ⟨rfl, hb⟩; have HU := Lib.hid (HU.out.trans (hb.mono HU.out.size)); clear hb)
    | (go_at_call 19; refine (hlives_any _ (mx_below HM.out HU.out)).mono ?_; rintro eC wC ⟨rfl, hb⟩; have HU := Lib.hid (HU.out.trans (hb.mono HU.out.size)); clear hb))
  refine wp_region_at (S := fun v => Blk v w.heap.size #[.string m, .string t, .int .i64 k, .int .i64 n, .string r, .slice A len cap] 24) (by kernel_rfl) ?_
  intro V0 hV0
  have h0 := K1.out.drew
  have hp0 := HP1.out.drew
  have hu0 := HU.out.drew
  rw [← hV0] at h0 hp0 hu0
  have hd0 := hdone_any hp0
  rw [HI1.out.2.1] at hd0
  have HDC := Lib.hid hd0
  have hh0 := hhead_any hp0 HI1.out.1
  rw [HI1.out.2.2] at hh0
  have HHC := Lib.hid hh0
  have HU0 := Lib.hid hu0
  have HSM := Lib.hid (fun (W : World) (f f' : Value) (h1 : Flds W f l) (h2 : Flds W f' l) => hsame_self ⟨m, t, k, n, r, l⟩ f f' W h1 h2 HL.out.2)
  simp only [Hd.row] at HSM
  clear hV0 hp0 hu0 hd0 hh0 HP1 HI1 HU K1 HBG1
  refine wpAnyH_take (i := 0) (v := .int .i64 (P.size : Int)) rfl (by kernel_rfl) (by kernel_rfl) (by kernel_rfl) (fun _ _ _ h => h) (Or.inl ⟨by kernel_rfl, ?hy69⟩) h0 ?rest69
  case hy69 =>
    intro v hv
    clear hv
    go_simp
  (try simp only [Act.put, List.setIfInBounds_toArray, List.set_cons_zero, List.set_cons_succ])
  refine wpAnyH_take (i := 1) (v := .string P) rfl (by kernel_rfl) (by kernel_rfl) (by kernel_rfl) (fun _ _ _ h => h) (Or.inl ⟨by kernel_rfl, ?hy70⟩) h0 ?rest70
  case hy70 =>
    intro v hv
    clear hv
    go_simp
  (try simp only [Act.put, List.setIfInBounds_toArray, List.set_cons_zero, List.set_cons_succ])
  refine wpAnyH_take (i := 2) (v := .int .i64 (P.size : Int)) rfl (by kernel_rfl) (by kernel_rfl) (by kernel_rfl) (fun _ _ _ h => h) (Or.inl ⟨by kernel_rfl, ?hy71⟩) h0 ?rest71
  case hy71 =>
    intro v hv
    clear hv
    go_simp
  (try simp only [Act.put, List.setIfInBounds_toArray, List.set_cons_zero, List.set_cons_succ])
  refine wpAnyH_take (i := 3) (v := .bool false) rfl (by kernel_rfl) (by kernel_rfl) (by kernel_rfl) (fun _ _ _ h => h) (Or.inl ⟨by kernel_rfl, ?hy72⟩) h0 ?rest72
  case hy72 =>
    intro v hv
    clear hv
    go_simp
  (try simp only [Act.put, List.setIfInBounds_toArray, List.set_cons_zero, List.set_cons_succ])
  refine wpAnyH_take (i := 4) (v := .bool false) rfl (by kernel_rfl) (by kernel_rfl) (by kernel_rfl) (fun _ _ _ h => h) (Or.inl ⟨by kernel_rfl, ?hy73⟩) h0 ?rest73
  case hy73 =>
    intro v hv
    clear hv
    go_simp
  (try simp only [Act.put, List.setIfInBounds_toArray, List.set_cons_zero, List.set_cons_succ])
  refine wpAnyH_take (i := 5) (v := .int .i64 0) rfl (by kernel_rfl) (by kernel_rfl) (by kernel_rfl) (fun _ _ _ h => h) (Or.inl ⟨by kernel_rfl, ?hy74⟩) h0 ?rest74
  case hy74 =>
    intro v hv
    clear hv
    go_simp
  (try simp only [Act.put, List.setIfInBounds_toArray, List.set_cons_zero, List.set_cons_succ])
  refine wpAnyH_take (i := 6) (v := .bool false) rfl (by kernel_rfl) (by kernel_rfl) (by kernel_rfl) (fun _ _ _ h => h) (Or.inl ⟨by kernel_rfl, ?hy75⟩) h0 ?rest75
  case hy75 =>
    intro v hv
    clear hv
    go_simp
  (try simp only [Act.put, List.setIfInBounds_toArray, List.set_cons_zero, List.set_cons_succ])
  refine wpAnyH_take (i := 7) (v := .bool false) rfl (by kernel_rfl) (by kernel_rfl) (by kernel_rfl) (fun _ _ _ h => h) (Or.inl ⟨by kernel_rfl, ?hy76⟩) h0 ?rest76
  case hy76 =>
    intro v hv
    clear hv
    go_simp
  (try simp only [Act.put, List.setIfInBounds_toArray, List.set_cons_zero, List.set_cons_succ])
  refine wpAnyH_take (i := 8) (v := .bool false) rfl (by kernel_rfl) (by kernel_rfl) (by kernel_rfl) (fun _ _ _ h => h) (Or.inl ⟨by kernel_rfl, ?hy77⟩) h0 ?rest77
  case hy77 =>
    intro v hv
    clear hv
    go_simp
  (try simp only [Act.put, List.setIfInBounds_toArray, List.set_cons_zero, List.set_cons_succ])
  refine wpAnyH_take (i := 9) (v := .pointer (some ⟨b1, 0, none⟩)) rfl (by kernel_rfl) (by kernel_rfl) (by kernel_rfl) (fun _ _ _ h => h) (Or.inl ⟨by kernel_rfl, ?hy78⟩) h0 ?rest78
  case hy78 =>
    intro v hv
    clear hv
    go_simp
  (try simp only [Act.put, List.setIfInBounds_toArray, List.set_cons_zero, List.set_cons_succ])
  refine wpAnyH_ready (rs := [10]) (by kernel_rfl) (by simp) ?_
  refine AllReadyH.cons rfl (fun K hK => ?_) AllReadyH.nil
  go_simp
  refine HDC.out.mono ?_
  rintro e V1 ⟨rfl, h1⟩
  subst h1
  refine hK _ _ h0 (fun _ => ?_)
  clear hK K HDC
  (try simp only [Act.put, List.setIfInBounds_toArray, List.set_cons_zero, List.set_cons_succ])
  refine wpAnyH_take (i := 11) (v := .bool false) rfl (by kernel_rfl) (by kernel_rfl) (by kernel_rfl) (fun _ _ _ h => h) (Or.inl ⟨by kernel_rfl, ?hy79⟩) h0 ?rest79
  case hy79 =>
    intro v hv
    clear hv
    go_simp
  (try simp only [Act.put, List.setIfInBounds_toArray, List.set_cons_zero, List.set_cons_succ])
  refine wpAnyH_take (i := 12) (v := .bool false) rfl (by kernel_rfl) (by kernel_rfl) (by kernel_rfl) (fun _ _ _ h => h) (Or.inl ⟨by kernel_rfl, ?hy80⟩) h0 ?rest80
  case hy80 =>
    intro v hv
    clear hv
    go_simp
  (try simp only [Act.put, List.setIfInBounds_toArray, List.set_cons_zero, List.set_cons_succ])
  refine wpAnyH_take (i := 13) (v := .bool false) rfl (by kernel_rfl) (by kernel_rfl) (by kernel_rfl) (fun _ _ _ h => h) (Or.inl ⟨by kernel_rfl, ?hy81⟩) h0 ?rest81
  case hy81 =>
    intro v hv
    clear hv
    go_simp
  (try simp only [Act.put, List.setIfInBounds_toArray, List.set_cons_zero, List.set_cons_succ])
  refine wpAnyH_take (i := 14) (v := .pointer (some ⟨b1, 0, none⟩)) rfl (by kernel_rfl) (by kernel_rfl) (by kernel_rfl) (fun _ _ _ h => h) (Or.inl ⟨by kernel_rfl, ?hy82⟩) h0 ?rest82
  case hy82 =>
    intro v hv
    clear hv
    go_simp
  (try simp only [Act.put, List.setIfInBounds_toArray, List.set_cons_zero, List.set_cons_succ])
  refine wpAnyH_take (i := 16) (v := .agg #[.string m, .string t, .int .i64 k, .int .i64 n, .string r, .slice A len cap]) rfl (by kernel_rfl) (by kernel_rfl) (by kernel_rfl) (fun _ _ _ h => h) (Or.inl ⟨by kernel_rfl, ?hy83⟩) h0 ?rest83
  case hy83 =>
    intro v hv
    have k0 := hv.cell 0
    have k1 := hv.cell 1
    have k2 := hv.cell 2
    have k3 := hv.cell 3
    have k4 := hv.cell 4
    have k5 := hv.cell 5
    simp at k0 k1 k2 k3 k4 k5
    clear hv
    go_simp
  (try simp only [Act.put, List.setIfInBounds_toArray, List.set_cons_zero, List.set_cons_succ])
  refine wpAnyH_ready (rs := [15]) (by kernel_rfl) (by simp) ?_
  refine AllReadyH.cons rfl (fun K hK => ?_) AllReadyH.nil
  go_simp
  refine HHC.out.mono ?_
  rintro e V1 ⟨f6, rfl, ho6, hb6⟩
  obtain ⟨p6, c6, rfl⟩ := own_slice ho6
  simp only [Hd.row] at ho6 ⊢
  have h1 := h0.call hb6
  have HF6 := Lib.hid ho6.flds
  have HU1 := Lib.hid (HU0.out.trans (hb6.mono HU0.out.size))
  have HF1 := Lib.hid ((flds_of (cap := cap) HL.out.1).below HU1.out)
  clear ho6 hb6 h0 HHC
  refine hK _ _ h1 (fun _ => ?_)
  clear hK K
  (try simp only [Act.put, List.setIfInBounds_toArray, List.set_cons_zero, List.set_cons_succ])
  refine wpAnyH_ready (rs := [17]) (by kernel_rfl) (by simp) ?_
  refine AllReadyH.cons rfl (fun K hK => ?_) AllReadyH.nil
  go_simp
  refine (HSM.out _ _ _ HF6.out HF1.out).mono ?_
  rintro e V2 ⟨rfl, hb7⟩
  have h2 := h1.call hb7
  have HU := Lib.hid (HU1.out.trans (hb7.mono HU1.out.size))
  clear hb7 h1 HSM
  refine hK _ _ h2 (fun _ => ?_)
  clear hK K
  (try simp only [Act.put, List.setIfInBounds_toArray, List.set_cons_zero, List.set_cons_succ])
  refine wpAnyH_take (i := 18) (v := .bool false) rfl (by kernel_rfl) (by kernel_rfl) (by kernel_rfl) (fun _ _ _ h => h) (Or.inl ⟨by kernel_rfl, ?hy84⟩) h2 ?rest84
  case hy84 =>
    intro v hv
    clear hv
    go_simp
  (try simp only [Act.put, List.setIfInBounds_toArray, List.set_cons_zero, List.set_cons_succ])
  refine wpAnyH_take (i := 19) (v := .bool false) rfl (by kernel_rfl) (by kernel_rfl) (by kernel_rfl) (fun _ _ _ h => h) (Or.inl ⟨by kernel_rfl, ?hy85⟩) h2 ?rest85
  case hy85 =>
    intro v hv
    clear hv
    go_simp
  (try simp only [Act.put, List.setIfInBounds_toArray, List.set_cons_zero, List.set_cons_succ])
  refine wpAnyH_done (by kernel_rfl) ?_ _
  have K1 := Lib.hid h2
  clear h2
  go_wp2_with (first
    | (go_at_call 9; refine HSH.out.mono ?_; rintro e1 w1 ⟨rfl, hb⟩; have HU := Lib.hid (below_one hb); have K1 := Lib.hid ((Blk.new w #[.string m, .string t, .int .i64 k, .int .i64 n, .string r, .slice A len cap] 24).call hb); have x0 := K1.out.cell 0; have x1 := K1.out.cell 1; have x2 := K1.out.cell 2; have x3 := K1.out.cell 3; have x4 := K1.out.cell 4; have x5 := K1.out.cell 5; simp at x0 x1 x2 x3 x4 x5; clear hb HSH)
    | (go_at_call 26; refine (HRT.out _ HU.out).mono ?_; rintro e2 w2 ⟨rfl, hb⟩; have HU := Lib.hid (HU.out.trans (hb.mono HU.out.size)); have K1 := Lib.hid (K1.out.call hb); clear x0 x1 x2 x3 x4 x5; have x0 := K1.out.cell 0; have x1 := K1.out.cell 1; have x2 := K1.out.cell 2; have x3 := K1.out.cell 3; have x4 := K1.out.cell 4; have x5 := K1.out.cell 5; simp at x0 x1 x2 x3 x4 x5; clear hb HRT)
    | (go_at_call 27; refine (HPR.out _ HU.out).mono ?_; rintro e3 w3 ⟨rfl, hb⟩; have HU := Lib.hid (HU.out.trans (hb.mono HU.out.size)); have K1 := Lib.hid (K1.out.call hb); clear x0 x1 x2 x3 x4 x5; clear hb HPR)
    | (go_at_call 28; refine (wide_any _).mono ?_; rintro e4 w4 ⟨rfl, hb⟩; have HU := Lib.hid (HU.out.trans (hb.mono HU.out.size)); have K1 := Lib.hid (K1.out.call hb); (try clear x0 x1 x2 x3 x4 x5); clear hb)
    | (go_at_call 18; refine (HNW1.out _).mono ?_; rintro e5 w5 ⟨b1, g1, rfl, hb1, hg1, hp, hb⟩; have HBG1 := Lib.hid (And.intro (Nat.le_trans (Nat.succ_le_of_lt K1.out.lt) hb1) (Nat.le_trans (Nat.succ_le_of_lt K1.out.lt) hg1)); have HU := Lib.hid (HU.out.trans (hb.mono HU.out.size)); have K1 := Lib.hid (K1.out.call hb); have HP1 := Lib.hid hp; clear hb hp hb1 hg1 HNW1)
    | (go_at_call 29; refine (HFD1.out _ _ _ _ HP1.out (mx_below HM.out HU.out) HU.out K1.out HBG1.out.1 HBG1.out.2).mono ?_; rintro e6 w6 ⟨rfl, hu, hk, vl1, va1, vf1, p1, hp, hln, hdn, hdo⟩; have HU := Lib.hid hu; have K1 := Lib.hid hk; have HP1 := Lib.hid hp; have HI1 := Lib.hid (And.intro hln (And.intro hdn hdo)); clear hu hk hp hln hdn hdo HFD1)
    | (go_at_call 18; refine (HNW2.out _).mono ?_; rintro e7 w7 ⟨b2, g2, rfl, hb2, hg2, hp, hb⟩; have HBG2 := Lib.hid (And.intro (Nat.le_trans HU.out.size hb2) (Nat.le_trans HU.out.size hg2)); have HU := Lib.hid (HU.out.trans (hb.mono HU.out.size)); have HP2 := Lib.hid hp; clear hb hp hb2 hg2 HNW2)
    | (go_at_call 18; refine (HNW2.out _).mono ?_; rintro e7 w7 ⟨rfl, hb⟩; have HU := Lib.hid (HU.out.trans (hb.mono HU.out.size)); clear hb HNW2)
    | (go_at_call 29; refine (HFD2.out _ _ _ _ HP2.out (mx_below HM.out HU.out) HU.out HBG2.out.1 HBG2.out.2).mono ?_; rintro e8 w8 ⟨rfl, hu, vl2, va2, vf2, p2, hp, hln, hdn, hri⟩; have HU := Lib.hid hu; have hd := hdone_any hp; rw [hdn] at hd; have HDC2 := Lib.hid hd; have HRI := Lib.hid hri; have HHC2 := Lib.hid (hhead_any hp hln); clear hu hp hln hdn hri hd HFD2)
    | (go_at_call 22; refine HDC2.out.mono ?_; rintro e9 w9 ⟨rfl, h9⟩; subst h9; clear HDC2)
    | (go_at_call 24; have hh := HHC2.out; rw [(HRI.out (by trivial)).1] at hh; refine hh.mono ?_; clear hh; rintro eA wA ⟨fA, rfl, hoA, hb⟩; obtain ⟨pA, cA, rfl⟩ := own_slice hoA; simp only [Hd.row] at hoA ⊢; have HFA := Lib.hid hoA.flds; have HU := Lib.hid (HU.out.trans (hb.mono HU.out.size)); clear hoA hb HHC2)
    | (go_at_call 26; refine ((HRI.out (by trivial)).2 _ _ HFA.out).mono ?_; rintro eB wB ⟨rfl, hb⟩; have HU := Lib.hid (HU.out.trans (hb.mono HU.out.size)); clear hb)
    | (go_at_call 19; refine (hlives_any _ (mx_below HM.out HU.out)).mono ?_; rintro eC wC ⟨rfl, hb⟩; have HU := Lib.hid (HU.out.trans (hb.mono HU.out.size)); clear hb))
  go_ret
  exact ⟨rfl, HU.out⟩
set_option maxRecDepth 100000 in
set_option maxHeartbeats 8000000 in
theorem hback_m2t (w : World) {A : Option Addr} {len cap : Nat} {l : List Fd} (m t r : ByteArray) (k n kind : Int) (S T : ByteArray) {mx : Int} (HM : Hid (w.cell? ⟨0, 0, none⟩ = some (.int .i64 mx))) (K0 : Nat) (hmin : min (S.size : Int) 2000 = (K0 : Int)) (hsl : ∀ W : World, (Instr.slice 9 (.string S) none (some (.int .i64 (K0 : Int))) none).run Tryz.prog W = .ok (.string T) W)
    (HSH : Hid (Calls Tryz.prog 9 #[.agg #[.string m, .string t, .int .i64 k, .int .i64 n, .string r, .slice A len cap]] (w.alloc (.cells #[.string m, .string t, .int .i64 k, .int .i64 n, .string r, .slice A len cap] 24)) fun e w' => e = .returned (.bool true) ∧ Below (w.alloc (.cells #[.string m, .string t, .int .i64 k, .int .i64 n, .string r, .slice A len cap] 24)).heap.size (w.alloc (.cells #[.string m, .string t, .int .i64 k, .int .i64 n, .string r, .slice A len cap] 24)) w'))
    (HRT : Hid (∀ W, Below w.heap.size w W → Calls Tryz.prog 26 #[.agg #[.string m, .string t, .int .i64 k, .int .i64 n, .string r, .slice A len cap]] W fun e w' => e = .returned (.bool true) ∧ Below W.heap.size W w')) (P : ByteArray) (hPs : P.size ≤ 1000000) (HL : Hid (Fds w A len l ∧ l.length ≤ 1000000)) (he : m.toList.isEmpty = true) (HPR : Hid (∀ W, Below w.heap.size w W → Calls Tryz.prog 27 #[.agg #[.string m, .string t, .int .i64 k, .int .i64 n, .string r, .slice A len cap]] W fun e w' => e = .returned (.string P) ∧ Below W.heap.size W w')) (HNW1 : Hid (∀ W : World, Calls Tryz.prog 18 #[.int .i64 2, .agg #[.int .i64 65536, .int .i64 1000, .int .i64 0, .int .i64 0, .int .i64 0]] W fun e w' => ∃ b g, e = .returned (.pointer (some ⟨b, 0, none⟩)) ∧ W.heap.size ≤ b ∧ W.heap.size ≤ g ∧ PaAt w' b g (W.heap.size + 3) nilS nilS nilS 2 65536 1000 0 0 0 (pa0 65536) ∧ Below W.heap.size W w')) (HFD1 : Hid (∀ (W : World) (b g B : Nat), PaAt W b g B nilS nilS nilS 2 65536 1000 0 0 0 (pa0 65536) → W.cell? ⟨0, 0, none⟩ = some (.int .i64 mx) → Below w.heap.size w W → Blk W w.heap.size #[.string m, .string t, .int .i64 k, .int .i64 n, .string r, .slice A len cap] 24 → w.heap.size + 1 ≤ b → w.heap.size + 1 ≤ g → Calls Tryz.prog 29 #[.pointer (some ⟨b, 0, none⟩), .string (P ++ ⟨#[120]⟩)] W fun e w' => e = .returned (.tuple #[.int .i64 (P.size : Int), .int .i64 0]) ∧ Below w.heap.size w w' ∧ Blk w' w.heap.size #[.string m, .string t, .int .i64 k, .int .i64 n, .string r, .slice A len cap] 24 ∧ ∃ vl va vf p, PaAt w' b g B vl va vf 2 65536 1000 0 0 0 p ∧ p.hd.fs.length ≤ 1000000 ∧ (p.fin && p.e == 0) = true ∧ doneH p = ⟨m, t, k, n, r, l⟩)) (N2 E2 : Int) (qm qt qr : ByteArray) (qk qn : Int) (qf : List Fd) (HNW2 : Hid (∀ W : World, Calls Tryz.prog 18 #[.int .i64 kind, .agg #[.int .i64 65536, .int .i64 1000, .int .i64 0, .int .i64 0, .int .i64 0]] W fun e w' => ∃ b g, e = .returned (.pointer (some ⟨b, 0, none⟩)) ∧ W.heap.size ≤ b ∧ W.heap.size ≤ g ∧ PaAt w' b g (W.heap.size + 3) nilS nilS nilS kind 65536 1000 0 0 0 (pa0 65536) ∧ Below W.heap.size W w')) (HFD2 : Hid (∀ (W : World) (b g B : Nat), PaAt W b g B nilS nilS nilS kind 65536 1000 0 0 0 (pa0 65536) → W.cell? ⟨0, 0, none⟩ = some (.int .i64 mx) → Below w.heap.size w W → w.heap.size ≤ b → w.heap.size ≤ g → Calls Tryz.prog 29 #[.pointer (some ⟨b, 0, none⟩), .string T] W fun e w' => e = .returned (.tuple #[.int .i64 N2, .int .i64 E2]) ∧ Below w.heap.size w w' ∧ ∃ vl va vf p, PaAt w' b g B vl va vf kind 65536 1000 0 0 0 p ∧ p.hd.fs.length ≤ 1000000 ∧ (p.fin && p.e == 0) = true ∧ (true = true → doneH p = ⟨qm, qt, qk, qn, qr, qf⟩ ∧ ∀ (V : World) (f : Value), Flds V f qf → Calls Tryz.prog 26 #[.agg #[.string qm, .string qt, .int .i64 qk, .int .i64 qn, .string qr, f]] V fun e w' => e = .returned (.bool true) ∧ Below V.heap.size V w'))) :
    Calls Tryz.prog 6 #[.agg #[.string m, .string t, .int .i64 k, .int .i64 n, .string r, .slice A len cap], .int .i64 kind, .string S] w fun e w' => e = .returned (.bool true) ∧ Below w.heap.size w w' := by
  go_enter Tryz.func6, Tryz.ntmps6
  go_wp2_with (first
    | (go_at_call 9; refine HSH.out.mono ?_; rintro e1 w1 ⟨rfl, hb⟩; have HU := Lib.hid (below_one hb); have K1 := Lib.hid ((Blk.new w #[.string m, .string t, .int .i64 k, .int .i64 n, .string r, .slice A len cap] 24).call hb); have x0 := K1.out.cell 0; have x1 := K1.out.cell 1; have x2 := K1.out.cell 2; have x3 := K1.out.cell 3; have x4 := K1.out.cell 4; have x5 := K1.out.cell 5; simp at x0 x1 x2 x3 x4 x5; clear hb HSH)
    | (go_at_call 26; refine (HRT.out _ HU.out).mono ?_; rintro e2 w2 ⟨rfl, hb⟩; have HU := Lib.hid (HU.out.trans (hb.mono HU.out.size)); have K1 := Lib.hid (K1.out.call hb); clear x0 x1 x2 x3 x4 x5; have x0 := K1.out.cell 0; have x1 := K1.out.cell 1; have x2 := K1.out.cell 2; have x3 := K1.out.cell 3; have x4 := K1.out.cell 4; have x5 := K1.out.cell 5; simp at x0 x1 x2 x3 x4 x5; clear hb HRT)
    | (go_at_call 27; refine (HPR.out _ HU.out).mono ?_; rintro e3 w3 ⟨rfl, hb⟩; have HU := Lib.hid (HU.out.trans (hb.mono HU.out.size)); have K1 := Lib.hid (K1.out.call hb); clear x0 x1 x2 x3 x4 x5; clear hb HPR)
    | (go_at_call 28; refine (wide_any _).mono ?_; rintro e4 w4 ⟨rfl, hb⟩; have HU := Lib.hid (HU.out.trans (hb.mono HU.out.size)); have K1 := Lib.hid (K1.out.call hb); (try clear x0 x1 x2 x3 x4 x5); clear hb)
    | (go_at_call 18; refine (HNW1.out _).mono ?_; rintro e5 w5 ⟨b1, g1, rfl, hb1, hg1, hp, hb⟩; have HBG1 := Lib.hid (And.intro (Nat.le_trans (Nat.succ_le_of_lt K1.out.lt) hb1) (Nat.le_trans (Nat.succ_le_of_lt K1.out.lt) hg1)); have HU := Lib.hid (HU.out.trans (hb.mono HU.out.size)); have K1 := Lib.hid (K1.out.call hb); have HP1 := Lib.hid hp; clear hb hp hb1 hg1 HNW1)
    | (go_at_call 29; refine (HFD1.out _ _ _ _ HP1.out (mx_below HM.out HU.out) HU.out K1.out HBG1.out.1 HBG1.out.2).mono ?_; rintro e6 w6 ⟨rfl, hu, hk, vl1, va1, vf1, p1, hp, hln, hdn, hdo⟩; have HU := Lib.hid hu; have K1 := Lib.hid hk; have HP1 := Lib.hid hp; have HI1 := Lib.hid (And.intro hln (And.intro hdn hdo)); clear hu hk hp hln hdn hdo HFD1)
    | (go_at_call 18; refine (HNW2.out _).mono ?_; rintro e7 w7 ⟨b2, g2, rfl, hb2, hg2, hp, hb⟩; have HBG2 := Lib.hid (And.intro (Nat.le_trans HU.out.size hb2) (Nat.le_trans HU.out.size hg2)); have HU := Lib.hid (HU.out.trans (hb.mono HU.out.size)); have HP2 := Lib.hid hp; clear hb hp hb2 hg2 HNW2)
    | (go_at_call 18; refine (HNW2.out _).mono ?_; rintro e7 w7 ⟨rfl, hb⟩; have HU := Lib.hid (HU.out.trans (hb.mono HU.out.size)); clear hb HNW2)
    | (go_at_call 29; refine (HFD2.out _ _ _ _ HP2.out (mx_below HM.out HU.out) HU.out HBG2.out.1 HBG2.out.2).mono ?_; rintro e8 w8 ⟨rfl, hu, vl2, va2, vf2, p2, hp, hln, hdn, hri⟩; have HU := Lib.hid hu; have hd := hdone_any hp; rw [hdn] at hd; have HDC2 := Lib.hid hd; have HRI := Lib.hid hri; have HHC2 := Lib.hid (hhead_any hp hln); clear hu hp hln hdn hri hd HFD2)
    | (go_at_call 22; refine HDC2.out.mono ?_; rintro e9 w9 ⟨rfl, h9⟩; subst h9; clear HDC2)
    | (go_at_call 24; have hh := HHC2.out; rw [(HRI.out (by trivial)).1] at hh; refine hh.mono ?_; clear hh; rintro eA wA ⟨fA, rfl, hoA, hb⟩; obtain ⟨pA, cA, rfl⟩ := own_slice hoA; simp only [Hd.row] at hoA ⊢; have HFA := Lib.hid hoA.flds; have HU := Lib.hid (HU.out.trans (hb.mono HU.out.size)); clear hoA hb HHC2)
    | (go_at_call 26; refine ((HRI.out (by trivial)).2 _ _ HFA.out).mono ?_; rintro eB wB ⟨rfl, hb⟩; have HU := Lib.hid (HU.out.trans (hb.mono HU.out.size)); clear hb)
    | (go_at_call 19; refine (hlives_any _ (mx_below HM.out HU.out)).mono ?_; rintro eC wC ⟨rfl, hb⟩; have HU := Lib.hid (HU.out.trans (hb.mono HU.out.size)); clear hb))
  refine wp_region_at (S := fun v => Blk v w.heap.size #[.string m, .string t, .int .i64 k, .int .i64 n, .string r, .slice A len cap] 24) (by kernel_rfl) ?_
  intro V0 hV0
  have h0 := K1.out.drew
  have hp0 := HP1.out.drew
  have hu0 := HU.out.drew
  rw [← hV0] at h0 hp0 hu0
  have hd0 := hdone_any hp0
  rw [HI1.out.2.1] at hd0
  have HDC := Lib.hid hd0
  have hh0 := hhead_any hp0 HI1.out.1
  rw [HI1.out.2.2] at hh0
  have HHC := Lib.hid hh0
  have HU0 := Lib.hid hu0
  have HSM := Lib.hid (fun (W : World) (f f' : Value) (h1 : Flds W f l) (h2 : Flds W f' l) => hsame_self ⟨m, t, k, n, r, l⟩ f f' W h1 h2 HL.out.2)
  simp only [Hd.row] at HSM
  clear hV0 hp0 hu0 hd0 hh0 HP1 HI1 HU K1 HBG1
  refine wpAnyH_take (i := 0) (v := .int .i64 (P.size : Int)) rfl (by kernel_rfl) (by kernel_rfl) (by kernel_rfl) (fun _ _ _ h => h) (Or.inl ⟨by kernel_rfl, ?hy86⟩) h0 ?rest86
  case hy86 =>
    intro v hv
    clear hv
    go_simp
  (try simp only [Act.put, List.setIfInBounds_toArray, List.set_cons_zero, List.set_cons_succ])
  refine wpAnyH_take (i := 1) (v := .string P) rfl (by kernel_rfl) (by kernel_rfl) (by kernel_rfl) (fun _ _ _ h => h) (Or.inl ⟨by kernel_rfl, ?hy87⟩) h0 ?rest87
  case hy87 =>
    intro v hv
    clear hv
    go_simp
  (try simp only [Act.put, List.setIfInBounds_toArray, List.set_cons_zero, List.set_cons_succ])
  refine wpAnyH_take (i := 2) (v := .int .i64 (P.size : Int)) rfl (by kernel_rfl) (by kernel_rfl) (by kernel_rfl) (fun _ _ _ h => h) (Or.inl ⟨by kernel_rfl, ?hy88⟩) h0 ?rest88
  case hy88 =>
    intro v hv
    clear hv
    go_simp
  (try simp only [Act.put, List.setIfInBounds_toArray, List.set_cons_zero, List.set_cons_succ])
  refine wpAnyH_take (i := 3) (v := .bool false) rfl (by kernel_rfl) (by kernel_rfl) (by kernel_rfl) (fun _ _ _ h => h) (Or.inl ⟨by kernel_rfl, ?hy89⟩) h0 ?rest89
  case hy89 =>
    intro v hv
    clear hv
    go_simp
  (try simp only [Act.put, List.setIfInBounds_toArray, List.set_cons_zero, List.set_cons_succ])
  refine wpAnyH_take (i := 4) (v := .bool false) rfl (by kernel_rfl) (by kernel_rfl) (by kernel_rfl) (fun _ _ _ h => h) (Or.inl ⟨by kernel_rfl, ?hy90⟩) h0 ?rest90
  case hy90 =>
    intro v hv
    clear hv
    go_simp
  (try simp only [Act.put, List.setIfInBounds_toArray, List.set_cons_zero, List.set_cons_succ])
  refine wpAnyH_take (i := 5) (v := .int .i64 0) rfl (by kernel_rfl) (by kernel_rfl) (by kernel_rfl) (fun _ _ _ h => h) (Or.inl ⟨by kernel_rfl, ?hy91⟩) h0 ?rest91
  case hy91 =>
    intro v hv
    clear hv
    go_simp
  (try simp only [Act.put, List.setIfInBounds_toArray, List.set_cons_zero, List.set_cons_succ])
  refine wpAnyH_take (i := 6) (v := .bool false) rfl (by kernel_rfl) (by kernel_rfl) (by kernel_rfl) (fun _ _ _ h => h) (Or.inl ⟨by kernel_rfl, ?hy92⟩) h0 ?rest92
  case hy92 =>
    intro v hv
    clear hv
    go_simp
  (try simp only [Act.put, List.setIfInBounds_toArray, List.set_cons_zero, List.set_cons_succ])
  refine wpAnyH_take (i := 7) (v := .bool false) rfl (by kernel_rfl) (by kernel_rfl) (by kernel_rfl) (fun _ _ _ h => h) (Or.inl ⟨by kernel_rfl, ?hy93⟩) h0 ?rest93
  case hy93 =>
    intro v hv
    clear hv
    go_simp
  (try simp only [Act.put, List.setIfInBounds_toArray, List.set_cons_zero, List.set_cons_succ])
  refine wpAnyH_take (i := 8) (v := .bool false) rfl (by kernel_rfl) (by kernel_rfl) (by kernel_rfl) (fun _ _ _ h => h) (Or.inl ⟨by kernel_rfl, ?hy94⟩) h0 ?rest94
  case hy94 =>
    intro v hv
    clear hv
    go_simp
  (try simp only [Act.put, List.setIfInBounds_toArray, List.set_cons_zero, List.set_cons_succ])
  refine wpAnyH_take (i := 9) (v := .pointer (some ⟨b1, 0, none⟩)) rfl (by kernel_rfl) (by kernel_rfl) (by kernel_rfl) (fun _ _ _ h => h) (Or.inl ⟨by kernel_rfl, ?hy95⟩) h0 ?rest95
  case hy95 =>
    intro v hv
    clear hv
    go_simp
  (try simp only [Act.put, List.setIfInBounds_toArray, List.set_cons_zero, List.set_cons_succ])
  refine wpAnyH_ready (rs := [10]) (by kernel_rfl) (by simp) ?_
  refine AllReadyH.cons rfl (fun K hK => ?_) AllReadyH.nil
  go_simp
  refine HDC.out.mono ?_
  rintro e V1 ⟨rfl, h1⟩
  subst h1
  refine hK _ _ h0 (fun _ => ?_)
  clear hK K HDC
  (try simp only [Act.put, List.setIfInBounds_toArray, List.set_cons_zero, List.set_cons_succ])
  refine wpAnyH_take (i := 11) (v := .bool false) rfl (by kernel_rfl) (by kernel_rfl) (by kernel_rfl) (fun _ _ _ h => h) (Or.inl ⟨by kernel_rfl, ?hy96⟩) h0 ?rest96
  case hy96 =>
    intro v hv
    clear hv
    go_simp
  (try simp only [Act.put, List.setIfInBounds_toArray, List.set_cons_zero, List.set_cons_succ])
  refine wpAnyH_take (i := 12) (v := .bool false) rfl (by kernel_rfl) (by kernel_rfl) (by kernel_rfl) (fun _ _ _ h => h) (Or.inl ⟨by kernel_rfl, ?hy97⟩) h0 ?rest97
  case hy97 =>
    intro v hv
    clear hv
    go_simp
  (try simp only [Act.put, List.setIfInBounds_toArray, List.set_cons_zero, List.set_cons_succ])
  refine wpAnyH_take (i := 13) (v := .bool false) rfl (by kernel_rfl) (by kernel_rfl) (by kernel_rfl) (fun _ _ _ h => h) (Or.inl ⟨by kernel_rfl, ?hy98⟩) h0 ?rest98
  case hy98 =>
    intro v hv
    clear hv
    go_simp
  (try simp only [Act.put, List.setIfInBounds_toArray, List.set_cons_zero, List.set_cons_succ])
  refine wpAnyH_take (i := 14) (v := .pointer (some ⟨b1, 0, none⟩)) rfl (by kernel_rfl) (by kernel_rfl) (by kernel_rfl) (fun _ _ _ h => h) (Or.inl ⟨by kernel_rfl, ?hy99⟩) h0 ?rest99
  case hy99 =>
    intro v hv
    clear hv
    go_simp
  (try simp only [Act.put, List.setIfInBounds_toArray, List.set_cons_zero, List.set_cons_succ])
  refine wpAnyH_take (i := 16) (v := .agg #[.string m, .string t, .int .i64 k, .int .i64 n, .string r, .slice A len cap]) rfl (by kernel_rfl) (by kernel_rfl) (by kernel_rfl) (fun _ _ _ h => h) (Or.inl ⟨by kernel_rfl, ?hy100⟩) h0 ?rest100
  case hy100 =>
    intro v hv
    have k0 := hv.cell 0
    have k1 := hv.cell 1
    have k2 := hv.cell 2
    have k3 := hv.cell 3
    have k4 := hv.cell 4
    have k5 := hv.cell 5
    simp at k0 k1 k2 k3 k4 k5
    clear hv
    go_simp
  (try simp only [Act.put, List.setIfInBounds_toArray, List.set_cons_zero, List.set_cons_succ])
  refine wpAnyH_ready (rs := [15]) (by kernel_rfl) (by simp) ?_
  refine AllReadyH.cons rfl (fun K hK => ?_) AllReadyH.nil
  go_simp
  refine HHC.out.mono ?_
  rintro e V1 ⟨f6, rfl, ho6, hb6⟩
  obtain ⟨p6, c6, rfl⟩ := own_slice ho6
  simp only [Hd.row] at ho6 ⊢
  have h1 := h0.call hb6
  have HF6 := Lib.hid ho6.flds
  have HU1 := Lib.hid (HU0.out.trans (hb6.mono HU0.out.size))
  have HF1 := Lib.hid ((flds_of (cap := cap) HL.out.1).below HU1.out)
  clear ho6 hb6 h0 HHC
  refine hK _ _ h1 (fun _ => ?_)
  clear hK K
  (try simp only [Act.put, List.setIfInBounds_toArray, List.set_cons_zero, List.set_cons_succ])
  refine wpAnyH_ready (rs := [17]) (by kernel_rfl) (by simp) ?_
  refine AllReadyH.cons rfl (fun K hK => ?_) AllReadyH.nil
  go_simp
  refine (HSM.out _ _ _ HF6.out HF1.out).mono ?_
  rintro e V2 ⟨rfl, hb7⟩
  have h2 := h1.call hb7
  have HU := Lib.hid (HU1.out.trans (hb7.mono HU1.out.size))
  clear hb7 h1 HSM
  refine hK _ _ h2 (fun _ => ?_)
  clear hK K
  (try simp only [Act.put, List.setIfInBounds_toArray, List.set_cons_zero, List.set_cons_succ])
  refine wpAnyH_take (i := 18) (v := .bool false) rfl (by kernel_rfl) (by kernel_rfl) (by kernel_rfl) (fun _ _ _ h => h) (Or.inl ⟨by kernel_rfl, ?hy101⟩) h2 ?rest101
  case hy101 =>
    intro v hv
    clear hv
    go_simp
  (try simp only [Act.put, List.setIfInBounds_toArray, List.set_cons_zero, List.set_cons_succ])
  refine wpAnyH_take (i := 19) (v := .bool false) rfl (by kernel_rfl) (by kernel_rfl) (by kernel_rfl) (fun _ _ _ h => h) (Or.inl ⟨by kernel_rfl, ?hy102⟩) h2 ?rest102
  case hy102 =>
    intro v hv
    clear hv
    go_simp
  (try simp only [Act.put, List.setIfInBounds_toArray, List.set_cons_zero, List.set_cons_succ])
  refine wpAnyH_done (by kernel_rfl) ?_ _
  have K1 := Lib.hid h2
  clear h2
  go_wp2_with (first
    | (go_at_call 9; refine HSH.out.mono ?_; rintro e1 w1 ⟨rfl, hb⟩; have HU := Lib.hid (below_one hb); have K1 := Lib.hid ((Blk.new w #[.string m, .string t, .int .i64 k, .int .i64 n, .string r, .slice A len cap] 24).call hb); have x0 := K1.out.cell 0; have x1 := K1.out.cell 1; have x2 := K1.out.cell 2; have x3 := K1.out.cell 3; have x4 := K1.out.cell 4; have x5 := K1.out.cell 5; simp at x0 x1 x2 x3 x4 x5; clear hb HSH)
    | (go_at_call 26; refine (HRT.out _ HU.out).mono ?_; rintro e2 w2 ⟨rfl, hb⟩; have HU := Lib.hid (HU.out.trans (hb.mono HU.out.size)); have K1 := Lib.hid (K1.out.call hb); clear x0 x1 x2 x3 x4 x5; have x0 := K1.out.cell 0; have x1 := K1.out.cell 1; have x2 := K1.out.cell 2; have x3 := K1.out.cell 3; have x4 := K1.out.cell 4; have x5 := K1.out.cell 5; simp at x0 x1 x2 x3 x4 x5; clear hb HRT)
    | (go_at_call 27; refine (HPR.out _ HU.out).mono ?_; rintro e3 w3 ⟨rfl, hb⟩; have HU := Lib.hid (HU.out.trans (hb.mono HU.out.size)); have K1 := Lib.hid (K1.out.call hb); clear x0 x1 x2 x3 x4 x5; clear hb HPR)
    | (go_at_call 28; refine (wide_any _).mono ?_; rintro e4 w4 ⟨rfl, hb⟩; have HU := Lib.hid (HU.out.trans (hb.mono HU.out.size)); have K1 := Lib.hid (K1.out.call hb); (try clear x0 x1 x2 x3 x4 x5); clear hb)
    | (go_at_call 18; refine (HNW1.out _).mono ?_; rintro e5 w5 ⟨b1, g1, rfl, hb1, hg1, hp, hb⟩; have HBG1 := Lib.hid (And.intro (Nat.le_trans (Nat.succ_le_of_lt K1.out.lt) hb1) (Nat.le_trans (Nat.succ_le_of_lt K1.out.lt) hg1)); have HU := Lib.hid (HU.out.trans (hb.mono HU.out.size)); have K1 := Lib.hid (K1.out.call hb); have HP1 := Lib.hid hp; clear hb hp hb1 hg1 HNW1)
    | (go_at_call 29; refine (HFD1.out _ _ _ _ HP1.out (mx_below HM.out HU.out) HU.out K1.out HBG1.out.1 HBG1.out.2).mono ?_; rintro e6 w6 ⟨rfl, hu, hk, vl1, va1, vf1, p1, hp, hln, hdn, hdo⟩; have HU := Lib.hid hu; have K1 := Lib.hid hk; have HP1 := Lib.hid hp; have HI1 := Lib.hid (And.intro hln (And.intro hdn hdo)); clear hu hk hp hln hdn hdo HFD1)
    | (go_at_call 18; refine (HNW2.out _).mono ?_; rintro e7 w7 ⟨b2, g2, rfl, hb2, hg2, hp, hb⟩; have HBG2 := Lib.hid (And.intro (Nat.le_trans HU.out.size hb2) (Nat.le_trans HU.out.size hg2)); have HU := Lib.hid (HU.out.trans (hb.mono HU.out.size)); have HP2 := Lib.hid hp; clear hb hp hb2 hg2 HNW2)
    | (go_at_call 18; refine (HNW2.out _).mono ?_; rintro e7 w7 ⟨rfl, hb⟩; have HU := Lib.hid (HU.out.trans (hb.mono HU.out.size)); clear hb HNW2)
    | (go_at_call 29; refine (HFD2.out _ _ _ _ HP2.out (mx_below HM.out HU.out) HU.out HBG2.out.1 HBG2.out.2).mono ?_; rintro e8 w8 ⟨rfl, hu, vl2, va2, vf2, p2, hp, hln, hdn, hri⟩; have HU := Lib.hid hu; have hd := hdone_any hp; rw [hdn] at hd; have HDC2 := Lib.hid hd; have HRI := Lib.hid hri; have HHC2 := Lib.hid (hhead_any hp hln); clear hu hp hln hdn hri hd HFD2)
    | (go_at_call 22; refine HDC2.out.mono ?_; rintro e9 w9 ⟨rfl, h9⟩; subst h9; clear HDC2)
    | (go_at_call 24; have hh := HHC2.out; rw [(HRI.out (by trivial)).1] at hh; refine hh.mono ?_; clear hh; rintro eA wA ⟨fA, rfl, hoA, hb⟩; obtain ⟨pA, cA, rfl⟩ := own_slice hoA; simp only [Hd.row] at hoA ⊢; have HFA := Lib.hid hoA.flds; have HU := Lib.hid (HU.out.trans (hb.mono HU.out.size)); clear hoA hb HHC2)
    | (go_at_call 26; refine ((HRI.out (by trivial)).2 _ _ HFA.out).mono ?_; rintro eB wB ⟨rfl, hb⟩; have HU := Lib.hid (HU.out.trans (hb.mono HU.out.size)); clear hb)
    | (go_at_call 19; refine (hlives_any _ (mx_below HM.out HU.out)).mono ?_; rintro eC wC ⟨rfl, hb⟩; have HU := Lib.hid (HU.out.trans (hb.mono HU.out.size)); clear hb))
  go_ret
  exact ⟨rfl, HU.out⟩
end Go.Proofs.YtmoofcmmpemdcaaGreatDoor
namespace Go.Proofs.YtmoofcmmpemdcaaGreatDoor
open Go.RowKit
theorem printA_low : ∀ (l : List Fd) (o : ByteArray), (∀ g ∈ l, g.1.size ≤ 300 ∧ g.2.size ≤ 300) → (printA o l).size ≤ o.size + 604 * l.length
  | [], o, _ => Nat.le_refl _
  | f :: l, o, h => by
    have h1 := printA_low l (o ++ frow f) (fun g hg => h g (by simp [hg]))
    have h2 := frow_size f
    have h3 := h f (by simp)
    have h4 : printA o (f :: l) = printA (o ++ frow f) l := rfl
    rw [h4, List.length_cons]
    rw [ByteArray.size_append] at h1
    omega
theorem short_low {m t r : ByteArray} {l : List Fd} (h : shortP m t r l = true) : ∀ g ∈ l, g.1.size ≤ 300 ∧ g.2.size ≤ 300 := by
  unfold shortP fewF at h
  simp only [Bool.and_eq_true, decide_eq_true_eq, List.all_eq_true] at h
  intro g hg
  have := h.1.2 g hg
  omega
theorem print_low {m t r : ByteArray} {l : List Fd} (k n : Int) (h : shortP m t r l = true) (hn : -9223372036854775808 ≤ n) (hn' : n ≤ 9223372036854775807) : (printB m t k n r l).size ≤ 65000 := by
  obtain ⟨s1, s2, s3, s4, s5⟩ := shortP_ok h
  have h1 := lineB_size m t r k n s3 s4 s5 hn hn'
  have h2 := printA_low l (lineB m t k n r ++ crlf) (short_low h)
  unfold printB
  rw [ByteArray.size_append]
  rw [ByteArray.size_append] at h2
  have h3 : crlf.size = 2 := rfl
  omega
set_option maxRecDepth 100000 in
set_option maxHeartbeats 4000000 in
theorem hback_s (w : World) {A : Option Addr} {len cap : Nat} (m t r : ByteArray) (k n kind : Int) (S T : ByteArray) {mx : Int} (HM : Hid (w.cell? ⟨0, 0, none⟩ = some (.int .i64 mx))) (K0 : Nat) (hmin : min (S.size : Int) 2000 = (K0 : Int)) (hsl : ∀ W : World, (Instr.slice 9 (.string S) none (some (.int .i64 (K0 : Int))) none).run Tryz.prog W = .ok (.string T) W)
    (HSH : Hid (Calls Tryz.prog 9 #[.agg #[.string m, .string t, .int .i64 k, .int .i64 n, .string r, .slice A len cap]] (w.alloc (.cells #[.string m, .string t, .int .i64 k, .int .i64 n, .string r, .slice A len cap] 24)) fun e w' => e = .returned (.bool false) ∧ Below (w.alloc (.cells #[.string m, .string t, .int .i64 k, .int .i64 n, .string r, .slice A len cap] 24)).heap.size (w.alloc (.cells #[.string m, .string t, .int .i64 k, .int .i64 n, .string r, .slice A len cap] 24)) w')) :
    Calls Tryz.prog 6 #[.agg #[.string m, .string t, .int .i64 k, .int .i64 n, .string r, .slice A len cap], .int .i64 kind, .string S] w fun e w' => e = .returned (.bool true) ∧ Below w.heap.size w w' := by
  go_enter Tryz.func6, Tryz.ntmps6
  go_wp2_with (first
    | (go_at_call 9; refine HSH.out.mono ?_; rintro e1 w1 ⟨rfl, hb⟩; have HU := Lib.hid (below_one hb); clear hb HSH)
    | (go_at_call 19; refine (hlives_any _ (mx_below HM.out HU.out)).mono ?_; rintro eC wC ⟨rfl, hb⟩; have HU := Lib.hid (HU.out.trans (hb.mono HU.out.size)); clear hb))
  go_ret
  exact ⟨rfl, HU.out⟩
theorem headBack_any {w : World} {A : Option Addr} {len cap : Nat} {l : List Fd} (m t r : ByteArray) (k n : Int) (h : Fds w A len l) (hl : len ≤ 9223372036854775807) (hn : -9223372036854775808 ≤ n) (hn' : n ≤ 9223372036854775807) (kind : Int) (S : ByteArray) (hSz : S.size ≤ 9223372036854775807) {mx : Int} (hm : w.cell? ⟨0, 0, none⟩ = some (.int .i64 mx)) :
    Calls Tryz.prog 6 #[.agg #[.string m, .string t, .int .i64 k, .int .i64 n, .string r, .slice A len cap], .int .i64 kind, .string S] w fun e w' => e = .returned (.bool true) ∧ Below w.heap.size w w' := by
  have HM := Lib.hid hm
  have hb0 : Below w.heap.size w (w.alloc (.cells #[.string m, .string t, .int .i64 k, .int .i64 n, .string r, .slice A len cap] 24)) := (Below.refl _ _).alloc (Nat.le_refl _) _
  have HSH := Lib.hid (short_any (cap := cap) m t r k n (h.below hb0) hl)
  have H := Lib.hid h
  obtain ⟨K0, hK0⟩ : ∃ K0 : Nat, K0 = min S.size 2000 := ⟨_, rfl⟩
  have hmin : min (S.size : Int) 2000 = (K0 : Int) := by omega
  obtain ⟨T, hT⟩ : ∃ T, T = S.extract 0 K0 := ⟨_, rfl⟩
  have hTs : T.size ≤ 2000 := by rw [hT]; simp; omega
  have hsl : ∀ W : World, (Instr.slice 9 (.string S) none (some (.int .i64 (K0 : Int))) none).run Tryz.prog W = .ok (.string T) W := fun W => by
    rw [run_slice_string_h W 9 S Tryz.underlying9 .i64 (K0 : Int) (by omega) (by omega), Int.toNat_natCast, hT]
  cases hS : shortP m t r l with
  | false =>
    rw [hS] at HSH
    exact hback_s w m t r k n kind S T HM K0 hmin hsl HSH
  | true =>
    rw [hS] at HSH
    obtain ⟨s1, s2, s3, s4, s5⟩ := shortP_ok hS
    have hlen := h.1
    have hfl : Flds w (.slice A len cap) l := flds_of h
    have HRT : ∀ W, Below w.heap.size w W → Calls Tryz.prog 26 #[.agg #[.string m, .string t, .int .i64 k, .int .i64 n, .string r, .slice A len cap]] W fun e w' => e = .returned (.bool (rightP m t k n r l)) ∧ Below W.heap.size W w' := fun W hW => hright_any m t r k n _ l (by omega) (by omega) (by omega) W (hfl.below hW) (by omega) (fun g hg => ⟨Nat.le_trans (s2 g hg).1 (by decide), Nat.le_trans (s2 g hg).2 (by decide)⟩)
    have hfar : ∀ (b g : Nat), w.heap.size + 1 ≤ b → w.heap.size + 1 ≤ g → ¬ PaP b g nilS nilS w.heap.size := by
      intro b g h1 h2
      rintro (e | e | e | e)
      · omega
      · omega
      · cases e
      · cases e
    have NEW : ∀ kk : Int, (kk = 1 ∨ kk = 2) → ∀ W : World, Calls Tryz.prog 18 #[.int .i64 kk, .agg #[.int .i64 65536, .int .i64 1000, .int .i64 0, .int .i64 0, .int .i64 0]] W fun e w' => ∃ b g, e = .returned (.pointer (some ⟨b, 0, none⟩)) ∧ W.heap.size ≤ b ∧ W.heap.size ≤ g ∧ PaAt w' b g (W.heap.size + 3) nilS nilS nilS kk 65536 1000 0 0 0 (pa0 65536) ∧ Below W.heap.size W w' := fun kk hkk W =>
      (hnew_any kk 65536 1000 0 0 0 (by decide) (by decide) hkk W).mono (fun e w' h => ⟨W.heap.size + 2, W.heap.size + 1, h.1, by omega, by omega, h.2.1, h.2.2⟩)
    have hz := print_low k n hS hn hn'
    have HPR : ∀ W, Below w.heap.size w W → Calls Tryz.prog 27 #[.agg #[.string m, .string t, .int .i64 k, .int .i64 n, .string r, .slice A len cap]] W fun e w' => e = .returned (.string (printB m t k n r l)) ∧ Below W.heap.size W w' := fun W hW => hprint_any m t r k n (H.out.below hW) (by omega) s2 s3 s4 s5 hn hn'
    have hPx : (printB m t k n r l ++ ⟨#[120]⟩ : ByteArray).data.toList = (printB m t k n r l).data.toList ++ [120] := by simp
    -- the second parser
    have SECOND : (kind = 1 ∨ kind = 2) → ∃ (N2 E2 : Int) (qm qt qr : ByteArray) (qk qn : Int) (qf : List Fd) (D : Bool), ∀ (W : World) (b g B : Nat), PaAt W b g B nilS nilS nilS kind 65536 1000 0 0 0 (pa0 65536) → W.cell? ⟨0, 0, none⟩ = some (.int .i64 mx) → Below w.heap.size w W → w.heap.size ≤ b → w.heap.size ≤ g → Calls Tryz.prog 29 #[.pointer (some ⟨b, 0, none⟩), .string T] W fun e w' => e = .returned (.tuple #[.int .i64 N2, .int .i64 E2]) ∧ Below w.heap.size w w' ∧ ∃ vl va vf p, PaAt w' b g B vl va vf kind 65536 1000 0 0 0 p ∧ p.hd.fs.length ≤ 1000000 ∧ (p.fin && p.e == 0) = D ∧ (D = true → doneH p = ⟨qm, qt, qk, qn, qr, qf⟩ ∧ ∀ (V : World) (f : Value), Flds V f qf → Calls Tryz.prog 26 #[.agg #[.string qm, .string qt, .int .i64 qk, .int .i64 qn, .string qr, f]] V fun e w' => e = .returned (.bool true) ∧ Below V.heap.size V w') := by
      intro hkk
      obtain ⟨R, hR⟩ : ∃ R, R = pRun kind 1000 0 T.data.toList (pa0 65536) := ⟨_, rfl⟩
      refine ⟨(R.2 : Int), R.1.e, R.1.hd.m, R.1.hd.t, R.1.hd.r, R.1.hd.k, R.1.hd.n, R.1.hd.fs, (R.1.fin && R.1.e == 0), ?_⟩
      intro W b g B hp hmx hbel hb hg
      refine (pfeed_any hp (pa0_bd (by decide) (by decide)) ⟨by decide, by decide⟩ hmx T (by omega)).mono ?_
      rintro e w' ⟨rfl, vl, va, vf, hp', hbd, tt, _, _⟩
      rw [← hR] at hp' hbd
      refine ⟨by rw [hR], hbel.trans (paP_below tt (N := w.heap.size) hb hg (fun k hk => by cases hk) (fun k hk => by cases hk) hbel.size), vl, va, vf, R.1, hp', Nat.le_trans hbd.f (by decide), rfl, ?_⟩
      intro hD
      have hdh : doneH R.1 = R.1.hd := by unfold doneH; rw [if_pos hD]
      refine ⟨by rw [hdh], fun V f hf => ?_⟩
      have hbd2 := hbd
      have hD2 := hD
      rw [hR] at hbd2 hD2
      have hri := pRun_right kind 1000 0 T.data.toList 65536 hbd2 hD2
      rw [← hR] at hri
      obtain ⟨r1, r2, r3, r4, r5⟩ := hri
      have := hright_any R.1.hd.m R.1.hd.t R.1.hd.r R.1.hd.k R.1.hd.n f R.1.hd.fs r2 r3 r4 V hf (Nat.le_trans hbd.f (by decide)) r5
      rw [r1] at this
      exact this
    by_cases hQ : rightP m t k n r l = true
    · rw [hQ] at HRT
      have hback := back_plain m t r k n l hQ (by omega) hz
      rw [← hPx] at hback
      have FIRST : ∀ kk : Int, kk = (if m.size ≠ 0 then 1 else 2) → ∀ (W : World) (b g B : Nat), PaAt W b g B nilS nilS nilS kk 65536 1000 0 0 0 (pa0 65536) → W.cell? ⟨0, 0, none⟩ = some (.int .i64 mx) → Below w.heap.size w W → Blk W w.heap.size #[.string m, .string t, .int .i64 k, .int .i64 n, .string r, .slice A len cap] 24 → w.heap.size + 1 ≤ b → w.heap.size + 1 ≤ g → Calls Tryz.prog 29 #[.pointer (some ⟨b, 0, none⟩), .string (printB m t k n r l ++ ⟨#[120]⟩)] W fun e w' => e = .returned (.tuple #[.int .i64 ((printB m t k n r l).size : Int), .int .i64 0]) ∧ Below w.heap.size w w' ∧ Blk w' w.heap.size #[.string m, .string t, .int .i64 k, .int .i64 n, .string r, .slice A len cap] 24 ∧ ∃ vl va vf p, PaAt w' b g B vl va vf kk 65536 1000 0 0 0 p ∧ p.hd.fs.length ≤ 1000000 ∧ (p.fin && p.e == 0) = true ∧ doneH p = ⟨m, t, k, n, r, l⟩ := by
        intro kk hkk W b g B hp hmx hbel hblk hb hg
        rw [← hkk] at hback
        obtain ⟨q1, q2, q3, q4⟩ := hback
        refine (pfeed_any hp (pa0_bd (by decide) (by decide)) ⟨by decide, by decide⟩ hmx _ (by rw [ByteArray.size_append]; show _ + 1 ≤ _; omega)).mono ?_
        rintro e w' ⟨rfl, vl, va, vf, hp', hbd, tt, _, _⟩
        refine ⟨by rw [q1, q3], hbel.trans (paP_below tt (N := w.heap.size) (Nat.le_of_succ_le hb) (Nat.le_of_succ_le hg) (fun k hk => by cases hk) (fun k hk => by cases hk) hbel.size), hblk.touch tt (hfar b g hb hg), vl, va, vf, _, hp', Nat.le_trans hbd.f (by decide), by rw [q2, q3]; rfl, ?_⟩
        unfold doneH
        rw [q2, q3]
        exact q4
      have HL : Hid (Fds w A len l ∧ l.length ≤ 1000000) := ⟨h, by omega⟩
      by_cases hm0 : m.size ≠ 0
      · have he : m.toList.isEmpty = false := by
          rw [isEmpty_list, List.isEmpty_eq_false_iff]
          intro e
          exact hm0 (by rw [Lib.size_eq, e]; rfl)
        have F1 := FIRST 1 (by rw [if_pos hm0])
        by_cases hkk : kind = 1 ∨ kind = 2
        · obtain ⟨N2, E2, qm, qt, qr, qk, qn, qf, D, hF2⟩ := SECOND hkk
          cases D with
          | false => exact hback_m1f w m t r k n kind S T HM K0 hmin hsl HSH HRT _ (by omega) HL he HPR (NEW 1 (Or.inl rfl)) F1 N2 E2 qm qt qr qk qn qf (NEW kind hkk) hF2
          | true => exact hback_m1t w m t r k n kind S T HM K0 hmin hsl HSH HRT _ (by omega) HL he HPR (NEW 1 (Or.inl rfl)) F1 N2 E2 qm qt qr qk qn qf (NEW kind hkk) hF2
        · exact hback_m1w w m t r k n kind S T HM K0 hmin hsl HSH HRT _ (by omega) HL he HPR (NEW 1 (Or.inl rfl)) F1 (fun W => hnew_wrong kind 65536 1000 0 0 0 (Or.inr (by omega)) W)
      · have he : m.toList.isEmpty = true := by
          rw [isEmpty_list, List.isEmpty_iff]
          exact List.eq_nil_of_length_eq_zero (by rw [← Lib.size_eq]; omega)
        have F1 := FIRST 2 (by rw [if_neg hm0])
        by_cases hkk : kind = 1 ∨ kind = 2
        · obtain ⟨N2, E2, qm, qt, qr, qk, qn, qf, D, hF2⟩ := SECOND hkk
          cases D with
          | false => exact hback_m2f w m t r k n kind S T HM K0 hmin hsl HSH HRT _ (by omega) HL he HPR (NEW 2 (Or.inr rfl)) F1 N2 E2 qm qt qr qk qn qf (NEW kind hkk) hF2
          | true => exact hback_m2t w m t r k n kind S T HM K0 hmin hsl HSH HRT _ (by omega) HL he HPR (NEW 2 (Or.inr rfl)) F1 N2 E2 qm qt qr qk qn qf (NEW kind hkk) hF2
        · exact hback_m2w w m t r k n kind S T HM K0 hmin hsl HSH HRT _ (by omega) HL he HPR (NEW 2 (Or.inr rfl)) F1 (fun W => hnew_wrong kind 65536 1000 0 0 0 (Or.inr (by omega)) W)
    · have hQ : rightP m t k n r l = false := by simpa using hQ
      rw [hQ] at HRT
      by_cases hkk : kind = 1 ∨ kind = 2
      · obtain ⟨N2, E2, qm, qt, qr, qk, qn, qf, D, hF2⟩ := SECOND hkk
        cases D with
        | false => exact hback_q0f (l := l) w m t r k n kind S T HM K0 hmin hsl HSH HRT N2 E2 qm qt qr qk qn qf (NEW kind hkk) hF2
        | true => exact hback_q0t (l := l) w m t r k n kind S T HM K0 hmin hsl HSH HRT N2 E2 qm qt qr qk qn qf (NEW kind hkk) hF2
      · exact hback_q0w (l := l) w m t r k n kind S T HM K0 hmin hsl HSH HRT (fun W => hnew_wrong kind 65536 1000 0 0 0 (Or.inr (by omega)) W)
end Go.Proofs.YtmoofcmmpemdcaaGreatDoor
