/- Parts: joined, fed; a parser that is none. -/
import Derived.Test.YtmoofcmmpemdcaaGreatDoorHdB
set_option linter.unusedSimpArgs false
set_option linter.unusedVariables false
namespace Go.Proofs.YtmoofcmmpemdcaaGreatDoor
open Go.RowKit
/-- Texts as one, if they aren't too long. -/
def joinP : List ByteArray → Nat → ByteArray → ByteArray × Bool
  | [], _, s => (s, true)
  | t :: r, i, s => if 300 ≤ i ∨ 2000 < t.size ∨ 2000 < s.size then (⟨#[]⟩, false) else joinP r (i + 1) (s ++ t)
/-- The octets of texts. -/
def octs (l : List ByteArray) : List UInt8 := l.flatMap fun t => t.data.toList
theorem octs_append (a b : List ByteArray) : octs (a ++ b) = octs a ++ octs b := by unfold octs; rw [List.flatMap_append]
theorem octs_one (t : ByteArray) : octs [t] = t.data.toList := by unfold octs; simp
theorem joinP_ok : ∀ (l : List ByteArray) (i : Nat) (s : ByteArray), s.size ≤ 4000 → (joinP l i s).2 = true → (joinP l i s).1.data.toList = s.data.toList ++ octs l ∧ (joinP l i s).1.size ≤ 4000 ∧ (i ≤ 300 → i + l.length ≤ 300) ∧ ∀ t ∈ l, t.size ≤ 2000
  | [], i, s, hs, _ => ⟨by simp [joinP, octs], hs, fun h => h, fun t ht => by cases ht⟩
  | t :: r, i, s, hs, h => by
    rw [joinP] at h ⊢
    by_cases hc : 300 ≤ i ∨ 2000 < t.size ∨ 2000 < s.size
    · rw [if_pos hc] at h
      cases h
    · rw [if_neg hc] at h ⊢
      obtain ⟨h1, h2, h3, h4⟩ := joinP_ok r (i + 1) (s ++ t) (by rw [ByteArray.size_append]; omega) h
      refine ⟨?_, h2, fun hi => ?_, fun x hx => ?_⟩
      · rw [h1, show t :: r = [t] ++ r from rfl, octs_append, octs_one]
        simp
      · have := h3 (by omega)
        simp only [List.length_cons]
        omega
      · rcases List.mem_cons.1 hx with rfl | hx
        · omega
        · exact h4 x hx
theorem joinP_nil (l : List ByteArray) (i : Nat) (s : ByteArray) (h : (joinP l i s).2 = false) : (joinP l i s).1 = ⟨#[]⟩ := by
  induction l generalizing i s with
  | nil => cases h
  | cons t r ih =>
    rw [joinP] at h ⊢
    split at h
    · rename_i hc
      rw [if_pos hc]
    · rename_i hc
      rw [if_neg hc]
      exact ih _ _ h
set_option maxRecDepth 100000 in
set_option maxHeartbeats 2000000 in
theorem joined_any (v : Value) (l : List ByteArray) (w : World) (h : Strs w v l) (hl : l.length ≤ 9223372036854775807) :
    Calls Tryz.prog 17 #[v] w fun e w' => e = .returned (.tuple #[.string (joinP l 0 ⟨#[]⟩).1, .bool (joinP l 0 ⟨#[]⟩).2]) ∧ w = w' := by
  obtain ⟨p, c, rfl, hc⟩ := h
  obtain ⟨J, hJ⟩ : ∃ J, J = joinP l 0 ⟨#[]⟩ := ⟨_, rfl⟩
  rw [← hJ]
  have HJ := Lib.hid hJ
  have HC := Lib.hid hc
  clear hJ hc
  go_enter Tryz.func17, Tryz.ntmps17
  go_wp2_with fail
  go_loopw [4, 9] (fun u4 u9 wr => ∃ (k : Nat) (s : ByteArray), k ≤ l.length ∧ u9 = .int .i64 k ∧ u4 = .string s ∧ s.size ≤ 4000 ∧ J = joinP (l.drop k) k s ∧ w = wr) (fun _ u9 _ => l.length - (intOf u9).toNat)
  case atStart => exact ⟨0, ⟨#[]⟩, Nat.zero_le _, rfl, rfl, by decide, HJ.out, rfl⟩
  case round =>
    obtain ⟨k, s, hk, rfl, rfl, hs4, hpre, rfl⟩ := hrel
    have HP := Lib.hid hpre
    clear hpre
    by_cases hlt : k < l.length
    · have hk1 : decide ((k : Int) < (l.length : Int)) = true := decide_eq_true (by omega)
      obtain ⟨b, off, hp, h2⟩ := HC.out k hlt
      subst hp
      obtain ⟨t, ht⟩ : ∃ t, t = l[k] := ⟨_, rfl⟩
      rw [← ht] at h2
      have hst : J = if 300 ≤ k ∨ 2000 < t.size ∨ 2000 < s.size then (⟨#[]⟩, false) else joinP (l.drop (k + 1)) (k + 1) (s ++ t) := by
        rw [HP.out, List.drop_eq_getElem_cons hlt, ← ht, joinP]
      have HST := Lib.hid hst
      clear ht hst
      by_cases h300 : 300 ≤ k
      · have h3 : decide ((300 : Int) ≤ (k : Int)) = true := decide_eq_true (by omega)
        have hF : J = (⟨#[]⟩, false) := by rw [HST.out, if_pos (Or.inl h300)]
        subst hF
        go_wp2_with fail
        go_ret2
        exact ⟨rfl, rfl⟩
      have h3 : decide ((300 : Int) ≤ (k : Int)) = false := decide_eq_false (by omega)
      by_cases ht2 : 2000 < t.size
      · have h4 : decide ((2000 : Int) < (t.size : Int)) = true := decide_eq_true (by omega)
        have hF : J = (⟨#[]⟩, false) := by rw [HST.out, if_pos (Or.inr (Or.inl ht2))]
        subst hF
        go_wp2_with fail
        go_ret2
        exact ⟨rfl, rfl⟩
      have h4 : decide ((2000 : Int) < (t.size : Int)) = false := decide_eq_false (by omega)
      by_cases hs2 : 2000 < s.size
      · have h5 : decide ((2000 : Int) < (s.size : Int)) = true := decide_eq_true (by omega)
        have hF : J = (⟨#[]⟩, false) := by rw [HST.out, if_pos (Or.inr (Or.inr hs2))]
        subst hF
        go_wp2_with fail
        go_ret2
        exact ⟨rfl, rfl⟩
      have h5 : decide ((2000 : Int) < (s.size : Int)) = false := decide_eq_false (by omega)
      obtain ⟨P, hP⟩ : ∃ P, P = s ++ t := ⟨_, rfl⟩
      have hPs : P.size ≤ 4000 := by rw [hP, ByteArray.size_append]; omega
      have hadd : ∀ W : World, (Op.stringOp .add s t).run Tryz.prog W = .ok (.string P) W := fun W => (run_string_add_sum (P := Tryz.prog) (w := W) s t (by omega)).trans (by rw [← hP])
      have hn : J = joinP (l.drop (k + 1)) (k + 1) P := by rw [HST.out, if_neg (by omega), hP]
      have HN := Lib.hid hn
      have HPS := Lib.hid hPs
      clear hn hPs hP
      go_wp2_with fail
      go_roundw
      case rel => exact ⟨k + 1, P, by omega, by go_num, rfl, HPS.out, HN.out, by first | rfl | trivial⟩
      case measure => simp [intOf]; omega
    · have hk1 : decide ((k : Int) < (l.length : Int)) = false := decide_eq_false (by omega)
      have hF : J = (s, true) := by
        rw [HP.out, List.drop_of_length_le (by omega)]
        rfl
      subst hF
      go_wp2_with fail
      go_ret2
      exact ⟨rfl, rfl⟩
set_option maxRecDepth 100000 in
set_option maxHeartbeats 4000000 in
theorem feed_all {w : World} {b g B : Nat} {vl va vf : Value} {kind a fields c d fold : Int} {p : PaS} (h : PaAt w b g B vl va vf kind a fields c d fold p) (hb : PaBd p) (hfi : -9223372036854775808 ≤ fields ∧ fields ≤ 9223372036854775807) {mx : Int} (hm : w.cell? ⟨0, 0, none⟩ = some (.int .i64 mx)) (v : Value) (l : List ByteArray) (hv : ∀ W, Touch (PaP b g vl va) w W → Strs W v l) (hl : l.length ≤ 300) (hs : ∀ t ∈ l, t.size ≤ 4000) :
    Calls Tryz.prog 20 #[.pointer (some ⟨b, 0, none⟩), v] w fun e w' => e = .returned (.tuple #[.int .i64 (pRun kind fields fold (octs l) p).2, .int .i64 (if l = [] then 0 else (pRun kind fields fold (octs l) p).1.e)]) ∧
      ∃ vl' va' vf', PaAt w' b g B vl' va' vf' kind a fields c d fold (pRun kind fields fold (octs l) p).1 ∧ PaBd (pRun kind fields fold (octs l) p).1 ∧ Touch (PaP b g vl va) w w' ∧ FreshB w vl vl' ∧ FreshB w va va' := by
  obtain ⟨q, cc, rfl, _⟩ := hv w (Touch.refl _ _)
  obtain ⟨R, hR⟩ : ∃ R, R = pRun kind fields fold (octs l) p := ⟨_, rfl⟩
  rw [← hR]
  obtain ⟨FE, hFE⟩ : ∃ x : Int, x = if l = [] then 0 else R.1.e := ⟨_, rfl⟩
  rw [← hFE]
  have HFE := Lib.hid hFE
  clear hFE
  have hmB : ∀ W, Touch (PaP b g vl va) w W → W.cell? ⟨0, 0, none⟩ = some (.int .i64 mx) := fun W t => touch_cell t (by
    show ¬ PaP b g vl va 0
    have h1 := h.b0
    have h2 := h.g0
    have h3 := h.lt
    rintro (e | e | e | e)
    · omega
    · omega
    · have := (h.l.o.lt 0 e).1
      omega
    · have := (h.o.lt 0 e).1
      omega) hm
  have hos : ∀ k, k ≤ l.length → (octs (l.take k)).length ≤ 4000 * k := by
    intro k
    induction k with
    | zero => intro _; simp [octs]
    | succ k ih =>
      intro hk
      have h1 := ih (by omega)
      have h2 := hs (l[k]'(by omega)) (List.getElem_mem _)
      rw [List.take_succ_eq_append_getElem (by omega), octs_append, octs_one, List.length_append, ← Lib.size_eq]
      omega
  have H := Lib.hid h
  have HR := Lib.hid hR
  have HB := Lib.hid hb
  have HMX := Lib.hid hmB
  have HFI := Lib.hid hfi
  have HV := Lib.hid hv
  have HS := Lib.hid hs
  have HOS := Lib.hid hos
  clear h hR hb hmB hfi hm hv hs hos
  go_enter Tryz.func20, Tryz.ntmps20
  go_wp2_with fail
  go_loopw [6, 7, 14] (fun u6 u7 u14 wr => ∃ (k : Nat) (pk : PaS) (vlk vak vfk : Value), k ≤ l.length ∧ u14 = .int .i64 k ∧ PaAt wr b g B vlk vak vfk kind a fields c d fold pk ∧ PaBd pk ∧ pRun kind fields fold (octs (l.take k)) p = (pk, (octs (l.take k)).length) ∧ u6 = .int .i64 (octs (l.take k)).length ∧ u7 = .int .i64 (if k = 0 then 0 else pk.e) ∧ Touch (PaP b g vl va) w wr ∧ FreshB w vl vlk ∧ FreshB w va vak) (fun _ _ u14 _ => l.length - (intOf u14).toNat)
  case atStart => exact ⟨0, p, vl, va, vf, Nat.zero_le _, rfl, H.out, HB.out, by simp [octs, pRun], by simp [octs], rfl, Touch.refl _ _, FreshB.refl _ _, FreshB.refl _ _⟩
  case round =>
    obtain ⟨k, pk, vlk, vak, vfk, hk, rfl, hat, hok, hpre, rfl, rfl, htc, hfl, hfa⟩ := hrel
    have HP := Lib.hid hpre
    have HT := Lib.hid htc
    have HL := Lib.hid (And.intro hfl hfa)
    have hlo := HOS.out k hk
    obtain ⟨O, hO⟩ : ∃ O, O = (octs (l.take k)).length := ⟨_, rfl⟩
    rw [← hO] at hlo
    rw [← hO]
    have HO := Lib.hid hO
    clear hpre htc hfl hfa hO
    obtain ⟨E, hE⟩ : ∃ E : Int, E = if k = 0 then 0 else pk.e := ⟨_, rfl⟩
    rw [← hE]
    have HE := Lib.hid hE
    clear hE
    by_cases hlt : k < l.length
    · have hk1 : decide ((k : Int) < (l.length : Int)) = true := decide_eq_true (by omega)
      obtain ⟨q2, cc2, hvv, hc⟩ := HV.out _ HT.out
      injection hvv with e1 e2 e3
      clear e2 e3
      obtain ⟨bb, off, hp, h2⟩ := hc k hlt
      rw [← e1] at hp
      subst hp
      obtain ⟨t, ht⟩ : ∃ t, t = l[k] := ⟨_, rfl⟩
      rw [← ht] at h2
      have hts : t.size ≤ 4000 := HS.out t (by rw [ht]; exact List.getElem_mem hlt)
      have htk : octs (l.take (k + 1)) = octs (l.take k) ++ t.data.toList := by rw [List.take_succ_eq_append_getElem hlt, octs_append, octs_one, ← ht]
      obtain ⟨Z, hZ⟩ : ∃ Z, Z = pRun kind fields fold t.data.toList pk := ⟨_, rfl⟩
      have hzl : Z.2 ≤ t.size := by rw [hZ, Lib.size_eq]; exact pRun_le _ _ _ _ _
      have hnx : pRun kind fields fold (octs (l.take (k + 1))) p = (Z.1, O + Z.2) := by
        rw [htk, pRun_append, HP.out, if_pos rfl, ← hZ, HO.out]
      have hol : (octs (l.take (k + 1))).length = O + t.size := by rw [htk, List.length_append, ← HO.out, ← Lib.size_eq]
      have htot : Z.2 < t.size → R = (Z.1, O + Z.2) := by
        intro hz
        have e2 : octs l = octs (l.take (k + 1)) ++ octs (l.drop (k + 1)) := by rw [← octs_append, List.take_append_drop]
        rw [HR.out, e2, pRun_append, hnx, if_neg (by rw [hol]; show ¬ O + Z.2 = O + t.size; omega)]
      have HFD := Lib.hid (pfeed_any hat hok HFI.out (HMX.out _ HT.out) t (by omega))
      rw [← hZ] at HFD
      have HNX := Lib.hid hnx
      have HOL := Lib.hid hol
      have HTOT := Lib.hid htot
      have hw1 : wrap64 ((O : Int) + (Z.2 : Int)) = ((O + Z.2 : Nat) : Int) := by
        rw [IntWalk.wrap64_in _ ⟨by omega, by omega⟩]
        omega
      have HZL := Lib.hid hzl
      clear hnx hol htot htk ht hts hZ hat hok hc e1
      obtain ⟨Z1, Z2⟩ := Z
      by_cases hz : Z2 < t.size
      · have hz1 : decide ((Z2 : Int) < (t.size : Int)) = true := decide_eq_true (by omega)
        have hF := HTOT.out hz
        have hne : l ≠ [] := by intro e; rw [e] at hlt; simp at hlt
        have HF := Lib.hid hF
        have HNE := Lib.hid hne
        clear hF hne
        go_wp2_with (go_at_call 29; refine HFD.out.mono ?_; rintro e' w3 ⟨rfl, vl3, va3, vf3, hp3, hb3, ht3, hfl3, hfa3⟩; have H3 := Lib.hid (And.intro hp3 (And.intro hb3 (And.intro ht3 (And.intro hfl3 hfa3)))); clear hp3 hb3 ht3 hfl3 hfa3)
        go_ret2
        have hfe : FE = Z1.e := by rw [HFE.out, if_neg HNE.out, HF.out]
        rw [HF.out, hfe]
        refine ⟨?_, vl3, va3, vf3, H3.out.1, H3.out.2.1, touch_into HT.out H3.out.2.2.1 (paP_into HL.out.1 HL.out.2), HL.out.1.trans HT.out.size H3.out.2.2.2.1, HL.out.2.trans HT.out.size H3.out.2.2.2.2⟩
        show Ending.returned (.tuple #[.int .i64 (wrap64 ((O : Int) + (Z2 : Int))), .int .i64 Z1.e]) = _
        rw [hw1]
      · have hz1 : decide ((Z2 : Int) < (t.size : Int)) = false := decide_eq_false (by omega)
        have hze : Z2 = t.size := by have := HZL.out; simp only at this; omega
        have HZE := Lib.hid hze
        clear hze
        go_wp2_with (go_at_call 29; refine HFD.out.mono ?_; rintro e' w3 ⟨rfl, vl3, va3, vf3, hp3, hb3, ht3, hfl3, hfa3⟩; have H3 := Lib.hid (And.intro hp3 (And.intro hb3 (And.intro ht3 (And.intro hfl3 hfa3)))); clear hp3 hb3 ht3 hfl3 hfa3)
        go_roundw
        case rel =>
          refine ⟨k + 1, Z1, vl3, va3, vf3, hlt, by go_num, H3.out.1, H3.out.2.1, ?_, ?_, by rw [if_neg (Nat.succ_ne_zero k)], touch_into HT.out H3.out.2.2.1 (paP_into HL.out.1 HL.out.2), HL.out.1.trans HT.out.size H3.out.2.2.2.1, HL.out.2.trans HT.out.size H3.out.2.2.2.2⟩
          · rw [HNX.out, HOL.out, HZE.out]
          · rw [HOL.out, hw1, HZE.out]
        case measure => simp [intOf]; omega
    · have hk1 : decide ((k : Int) < (l.length : Int)) = false := decide_eq_false (by omega)
      have hkl : k = l.length := by omega
      have hF : R = (pk, O) := by rw [HR.out, HO.out, ← HP.out, List.take_of_length_le (by omega)]
      have hEe : E = if l = [] then 0 else pk.e := by
        rw [HE.out, hkl]
        by_cases e : l = []
        · rw [if_pos e, if_pos (by rw [e]; rfl)]
        · rw [if_neg e, if_neg (fun h => e (List.eq_nil_of_length_eq_zero h))]
      have HF := Lib.hid hF
      have HEE := Lib.hid hEe
      have HA := Lib.hid (And.intro hat hok)
      clear hF hEe hat hok
      go_wp2_with fail
      go_ret2
      have hfe : FE = E := by rw [HFE.out, HF.out]; exact HEE.out.symm
      rw [HF.out, hfe]
      exact ⟨rfl, vlk, vak, vfk, HA.out.1, HA.out.2, HT.out, HL.out.1, HL.out.2⟩
end Go.Proofs.YtmoofcmmpemdcaaGreatDoor
namespace Go.Proofs.YtmoofcmmpemdcaaGreatDoor
open Go.RowKit
set_option maxRecDepth 100000 in
theorem nfeed_nil (S : ByteArray) (w : World) : Calls Tryz.prog 29 #[.pointer none, .string S] w fun e w' => e = .returned (.tuple #[.int .i64 0, .int .i64 1]) ∧ w = w' := by
  go_enter Tryz.func29, Tryz.ntmps29
  go_wp2_with fail
  go_ret2
  exact ⟨rfl, rfl⟩
set_option maxRecDepth 100000 in
theorem nfeed_empty (S : ByteArray) (b : Nat) (w : World) (h : w.cell? ⟨b, 0, none⟩ = some (.pointer none)) : Calls Tryz.prog 29 #[.pointer (some ⟨b, 0, none⟩), .string S] w fun e w' => e = .returned (.tuple #[.int .i64 0, .int .i64 1]) ∧ w = w' := by
  go_enter Tryz.func29, Tryz.ntmps29
  go_wp2_with fail
  go_ret2
  exact ⟨rfl, rfl⟩
set_option maxRecDepth 100000 in
theorem ndone_nil (w : World) : Calls Tryz.prog 22 #[.pointer none] w fun e w' => e = .returned (.bool false) ∧ w = w' := by
  go_enter Tryz.func22, Tryz.ntmps22
  go_wp2_with fail
  go_ret
  exact ⟨rfl, rfl⟩
set_option maxRecDepth 100000 in
theorem nbegun_nil (w : World) : Calls Tryz.prog 25 #[.pointer none] w fun e w' => e = .returned (.bool false) ∧ w = w' := by
  go_enter Tryz.func25, Tryz.ntmps25
  go_wp2_with fail
  go_ret
  exact ⟨rfl, rfl⟩
set_option maxRecDepth 100000 in
theorem nbegun_empty (b : Nat) (w : World) (h : w.cell? ⟨b, 0, none⟩ = some (.pointer none)) : Calls Tryz.prog 25 #[.pointer (some ⟨b, 0, none⟩)] w fun e w' => e = .returned (.bool false) ∧ w = w' := by
  go_enter Tryz.func25, Tryz.ntmps25
  go_wp2_with fail
  go_ret
  exact ⟨rfl, rfl⟩
set_option maxRecDepth 100000 in
theorem nhead_nil (w : World) : Calls Tryz.prog 24 #[.pointer none] w fun e w' => e = .returned (.agg (hd0.row nilS)) ∧ Below w.heap.size w w' := by
  have HD := Lib.hid (fun (W : World) => ndone_nil W)
  go_enter Tryz.func24, Tryz.ntmps24
  go_wp2_with (go_at_call 22; refine (HD.out _).mono ?_; rintro e1 w1 ⟨rfl, h1⟩; subst h1)
  refine bodyPost_ret (results_cell_row (Tryz.results24) _ _ w.heap.size 24 (hd0.row nilS) (0, 0) _ rfl ?_ Tryz.underlying24 rfl (by kernel_rfl)) rfl ⟨rfl, ?_⟩
  · exact Blk.new _ _ _
  · exact (Below.refl w.heap.size w).alloc (Nat.le_refl _) _
theorem PaAt.raise {w : World} {b g B B' : Nat} {kind a fields c d fold : Int} {p : PaS} (h : PaAt w b g B nilS nilS nilS kind a fields c d fold p) (hp : p.ln.line = [] ∧ p.all = [] ∧ p.hd.fs = []) (hB : B ≤ B') (hB' : B' ≤ w.heap.size) : PaAt w b g B' nilS nilS nilS kind a fields c d fold p :=
  ⟨h.k, ⟨h.l.b, by rw [hp.1]; exact OwnB.start _ _, Nat.lt_of_lt_of_le h.l.lt hB, hB'⟩, by rw [hp.2.1]; exact OwnS.start _ _, by rw [hp.2.2]; exact OwnF.start _ _, h.z, Nat.lt_of_lt_of_le h.lt hB, h.ne, h.b0, h.g0, h.n⟩
end Go.Proofs.YtmoofcmmpemdcaaGreatDoor
