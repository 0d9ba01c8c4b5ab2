/- Texts packed for one claim, 52 of 52: MbP MbW. -/
import Derived.Test.YtaojfiegnebbdaaGreatDoorMbkQ47
import Derived.Test.YtaojfiegnebbdaaGreatDoorMbkQ50
import Derived.Test.YtaojfiegnebbdaaGreatDoorMbkQ51
import Derived.Test.YtaojfiegnebbdaaGreatDoorMbkQ7
import Derived.Test.YtaojfiegnebbdaaGreatDoorMbkQ40
set_option maxRecDepth 100000
set_option maxHeartbeats 16000000
set_option linter.unusedSimpArgs false
set_option linter.unusedVariables false
-- MbP
namespace Go.Proofs.YtaojfiegnebbdaaGreatDoor
open Go.RowKit
theorem szO_outC : ∀ ps : List ByteArray, szO (outC ps) = ps.map fun p => (p.data.toList.length : Int)
 | [] => rfl
 | p :: ps => by
   have e : outC (p :: ps) = [⟨2, p.data.toList.length, ⟨#[]⟩⟩, ⟨3, 0, p⟩] ++ outC ps := rfl
   rw [e, szO_append, szO_outC ps]
   rfl
theorem bdO_outC : ∀ ps : List ByteArray, bdO (outC ps) = ps.flatMap fun p => p.data.toList
 | [] => rfl
 | p :: ps => by
   have e : outC (p :: ps) = [⟨2, p.data.toList.length, ⟨#[]⟩⟩, ⟨3, 0, p⟩] ++ outC ps := rfl
   rw [e, bdO_append, bdO_outC ps]
   have e2 : bdO [⟨2, p.data.toList.length, ⟨#[]⟩⟩, ⟨3, 0, p⟩] = p.data.toList := by
    show [] ++ (p.data.toList ++ []) = _
    simp
   rw [e2]
   rfl
theorem got_chunks (n : Int) (z : List Int) (s : ByteArray) (l : List Fd) (q : List UInt8) (hn : 0 ≤ n) (hc : cutF z s.size = some 0) (hb : badF l = false) (hs : s.size ≤ 2000) (hz : z.length ≤ 300) (hl : l.length ≤ 40) (hls : (lsum (l.map fun f => (flineB f.1 f.2).data.toList) : Int) ≤ 60000) :
 gotOpen wideL 2 n ((chunksL (cutP s z z.length) ++ lastB l).data.toList ++ q) = ⟨s.data.toList, z, l, (chunksL (cutP s z z.length) ++ lastB l).size, true, 0⟩ := by
 obtain ⟨hpos, hoff, _⟩ := cutF_off hc
 have hoff' : offK z z.length = s.size := by omega
 have hmem := cutP_mem s z hpos hoff'
 obtain ⟨hcat, hsz⟩ := cutP_spec s z hpos hoff' z.length (nR _)
 have hr : allR l = true := by
  unfold badF at hb
  unfold allR
  rw [List.all_eq_true]
  intro f hf
  have := List.any_eq_false.1 hb f hf
  simpa using this
 have hdata : (chunksL (cutP s z z.length) ++ lastB l).data.toList = encC (cutP s z z.length) ++ (48 :: 13 :: 10 :: (encL (l.map fun f => (flineB f.1 f.2).data.toList) ++ 13 :: 10 :: [])) := by
  have : ∀ a b : ByteArray, (a ++ b).data.toList = a.data.toList ++ b.data.toList := fun a b => by simp
  rw [this, last_enc]
  unfold chunksL
  rw [chunks_enc _ _ (fun p hp => (hmem p hp).1)]
  rfl
 have hfig : ∀ p ∈ cutP s z z.length, 0 < p.data.toList.length ∧ p.data.toList.length ≤ 2147483647 ∧ ((figL 16 p.data.toList.length).length : Int) + 2 ≤ wideL.line := fun p hp => by
  obtain ⟨h1, h2⟩ := hmem p hp
  have := figL_hexlen p.data.toList.length 2 (by omega)
  exact ⟨h1, by omega, by show _ ≤ (100 : Int); omega⟩
 have hfl : ∀ x ∈ (l.map fun f => (flineB f.1 f.2).data.toList), noB x ∧ x ≠ [] := fun x hx => by
  obtain ⟨f, hf, rfl⟩ := List.mem_map.1 hx
  unfold allR at hr
  have := hb_fparse (List.all_eq_true.1 hr f hf)
  exact ⟨this.2.2.1, this.2.2.2⟩
 have hall : allF wideL.fold ([] ++ (l.map fun f => (flineB f.1 f.2).data.toList).map strL) = (l, 0) := by
  rw [List.nil_append, List.map_map]
  have e : (strL ∘ fun f : Fd => (flineB f.1 f.2).data.toList) = fun f => flineB f.1 f.2 := funext fun f => strL_data _
  rw [e]
  exact hb_all l hr
 have hnew : bNew wideL 2 n = szS wideL n [] := by
  unfold bNew
  simp only
  rw [if_neg (by show ¬ (n < 0 ∨ (100 : Int) < 0 ∨ 65536 < (100 : Int) ∨ (65536 : Int) < 0 ∨ 65536 < (65536 : Int)); omega), if_neg (by decide), if_neg (by decide), if_pos trivial]
  rfl
 generalize hps : cutP s z z.length = ps at *
 generalize hlsn : (l.map fun f => (flineB f.1 f.2).data.toList) = ls at *
 have hll : ls.length = l.length := by rw [← hlsn, List.length_map]
 have hTs := Lib.size_eq (chunksL ps ++ lastB l)
 generalize (chunksL ps ++ lastB l).size = TS at *
 generalize (chunksL ps ++ lastB l).data.toList = T at *
 have hTlen : T.length = (encC ps).length + (3 + (lsum ls + 2)) := by
  rw [hdata]
  simp only [List.length_append, List.length_cons, List.length_nil, encL_length]
  omega
 have hc4 := encC_long ps
 have hl2 := lsum_long ls
 obtain ⟨f, hf⟩ : ∃ f, (T ++ q).length + 1 = (f + ls.length + 1 + 1) + 4 * ps.length := ⟨(T ++ q).length + 1 - (ls.length + 1 + 1 + 4 * ps.length), by rw [List.length_append]; omega⟩
 have hrun : ∃ S, bFeed wideL (bNew wideL 2 n) (T ++ q) = (S, T.length) ∧ S.over = true ∧ S.e = 0 ∧ S.tr = l ∧ S.out = outC ps ++ [⟨4, 0, ⟨#[]⟩⟩] := by
  unfold bFeed
  rw [hf, hnew]
  have hTq : T ++ q = encC ps ++ (48 :: 13 :: 10 :: (encL ls ++ 13 :: 10 :: q)) := by rw [hdata]; simp
  obtain ⟨left', e1⟩ := chunks_run wideL ps n [] (48 :: 13 :: 10 :: (encL ls ++ 13 :: 10 :: q)) (f + ls.length + 1 + 1) hfig
  obtain ⟨S, e2, h1, h2, h3, h4⟩ := trail_run wideL left' ([] ++ outC ps) l ls (ln0 wideL.head) [] q f hfl rfl rfl rfl rfl (by show (lsum ls : Int) + 2 ≤ (65536 : Int); omega) hall (by show ((([] ++ ls.map strL).length : Nat) : Int) ≤ (1000 : Int); rw [List.nil_append, List.length_map]; omega)
  rw [hTq, e1, bRun_one (y := encL ls ++ 13 :: 10 :: q) (by simp) rfl (last_step wideL left' _ (by decide) _) rfl, e2]
  refine ⟨S, Prod.ext rfl ?_, h1, h2, h3, by rw [h4, List.nil_append]⟩
  show (encC ps).length + (3 + (lsum ls + 2)) = _
  rw [hTlen]
 obtain ⟨S, e, h1, h2, h3, h4⟩ := hrun
 have hoe := open_eq wideL 2 n (T ++ q)
 rw [e] at hoe
 obtain ⟨g1, g2, g3, g4, g5, g6⟩ := hoe
 generalize gotOpen wideL 2 n (T ++ q) = G at *
 obtain ⟨gb, gs, gt, gu, go, ge⟩ := G
 dsimp only at g1 g2 g3 g4 g5 g6
 rw [h4, szO_append, szO_outC, hsz, List.take_length] at g5
 rw [h4, bdO_append, bdO_outC, hcat, hoff', List.take_of_length_le (by rw [← Lib.size_eq]; exact nR _)] at g6
 have e5 : z ++ [] = [] ++ gs := g5
 have e6 : s.data.toList ++ [] = [] ++ gb := g6
 rw [List.append_nil, List.nil_append] at e5 e6
 rw [← e5, ← e6, ← g4, h3, ← g1, ← g2, h1, ← g3, h2, hTs]
theorem got_body {k n : Int} {z : List Int} {s : ByteArray} {l : List Fd} {t : ByteArray} (q : List UInt8) (h : bodyRes k n z s l = (t, 0)) (hk3 : k ≠ 3) (hs : s.size ≤ 2000) (hz : z.length ≤ 300) (hl : fewF l = true) :
 gotRead wideL k n false (t.data.toList ++ q) = ⟨s.data.toList, z, l, t.size, true, 0⟩ := by
 have e0 : gotRead wideL k n false (t.data.toList ++ q) = gotOpen wideL k n (t.data.toList ++ q) := by unfold gotRead; simp
 rw [e0]
 obtain ⟨hl1, hl2⟩ := few_low hl
 have hlsum := lsum_flds l hl2
 unfold bodyRes at h
 split at h
 ·cases h
 rename_i hn
 split at h
 ·rename_i hk
  split at h
  ·rename_i h2
   have ez : z = [] := List.eq_nil_of_length_eq_zero h2.2.1
   have el : l = [] := List.eq_nil_of_length_eq_zero h2.2.2
   have et : s = t := (Prod.mk.inj h).1
   subst ez el et
   have hf := h2.1
   unfold fitsB at hf
   rw [Bool.or_eq_true, Bool.or_eq_true, decide_eq_true_eq, decide_eq_true_eq, decide_eq_true_eq] at hf
   have hsl := Lib.size_eq s
   unfold gotOpen
   rcases hf with ⟨rfl, h0⟩ | ⟨rfl, h0⟩ | rfl
   ·rw [if_neg (by show ¬ (n < 0 ∨ (0 : Int) < 0 ∨ 3 < (0 : Int) ∨ (100 : Int) < 0 ∨ 65536 < (100 : Int) ∨ (65536 : Int) < 0 ∨ 65536 < (65536 : Int)); omega), if_pos rfl]
    have : s.data.toList = [] := List.eq_nil_of_length_eq_zero (by omega)
    rw [this, h0]
   ·rw [if_neg (by show ¬ (n < 0 ∨ (1 : Int) < 0 ∨ 3 < (1 : Int) ∨ (100 : Int) < 0 ∨ 65536 < (100 : Int) ∨ (65536 : Int) < 0 ∨ 65536 < (65536 : Int)); omega), if_neg (by decide), if_pos rfl]
    have hm : min (((s.data.toList ++ q).length : Nat) : Int) n = n := by rw [List.length_append]; omega
    rw [hm, h0, Int.toNat_natCast, hsl, List.take_left]
    simp
   ·exact absurd rfl hk3
  ·cases h
 ·rename_i hk
  have hk2 : k = 2 := by omega
  split at h
  ·cases h
  ·rename_i hc
   split at h
   ·cases h
   ·rename_i hb
    have hc' : cutF z s.size = some 0 := by
     cases e : cutF z s.size with
     | none => exact absurd (by rw [e]; simp) hc
     | some y =>
       by_cases hy : y = 0
       ·rw [hy]
       ·exact absurd (by rw [e]; simp [hy]) hc
    have hb' : badF l = false := Bool.eq_false_iff.2 hb
    have et : chunksL (cutP s z z.length) ++ lastB l = t := (Prod.mk.inj h).1
    subst et hk2
    exact got_chunks n z s l q (by omega) hc' hb' hs hz hl1 (by omega)
theorem got_head (m t r : ByteArray) (k n : Int) (l : List Fd) (q : List UInt8) (h : rightP m t k n r l = true) (hl : l.length ≤ 1000) (hz : (printB m t k n r l).size ≤ 65000) :
 gotP (if m.size ≠ 0 then 1 else 2) 1000 0 65536 ((printB m t k n r l).data.toList ++ q) = ⟨⟨m, t, k, n, r, l⟩, ((printB m t k n r l).size : Int), true, 0, true⟩ := by
 unfold rightP at h
 simp only [Bool.and_eq_true] at h
 obtain ⟨h1, h2, h3⟩ := h
 have hk : k = 0 ∨ k = 1 := by
  rw [Bool.or_eq_true] at h2
  rcases h2 with h2 | h2
  ·exact Or.inl (eq_of_beq h2)
  ·exact Or.inr (eq_of_beq h2)
 obtain ⟨f1, f2, f3⟩ := line_right (k := k) h1 hk
 obtain ⟨kind, hkd⟩ : ∃ kind : Int, kind = if m.size ≠ 0 then 1 else 2 := ⟨_, rfl⟩
 rw [← hkd] at f3 ⊢
 have hkk : kind = 1 ∨ kind = 2 := by rw [hkd]; split; exact Or.inl rfl; exact Or.inr rfl
 have hp := printB_enc m t r k n l
 obtain ⟨P, hP⟩ : ∃ P, P = printB m t k n r l := ⟨_, rfl⟩
 rw [← hP] at hp hz ⊢
 have hal := hb_all l h3
 unfold allR at h3
 rw [List.all_eq_true] at h3
 obtain ⟨ls, hls⟩ : ∃ ls, ls = (lineB m t k n r).data.toList :: l.map fun f => (flineB f.1 f.2).data.toList := ⟨_, rfl⟩
 rw [← hls] at hp
 have hno : ∀ x ∈ ls, noB x ∧ x ≠ [] := by
  intro x hx
  rw [hls] at hx
  rcases List.mem_cons.1 hx with rfl | hx
  ·exact ⟨f1, f2⟩
  ·obtain ⟨f, hf, rfl⟩ := List.mem_map.1 hx
   exact ⟨(hb_fparse (h3 f hf)).2.2.1, (hb_fparse (h3 f hf)).2.2.2⟩
 have hst : ls.map strL = lineB m t k n r :: l.map fun f => flineB f.1 f.2 := by
  rw [hls, List.map_cons, strL_data, List.map_map]
  rfl
 have hlen : P.size = lsum ls + 2 := by
  rw [← hb_sz, hp, encL_length]
  unfold lsum
  simp
 have hH : headP kind 1000 0 (ls.map strL) = (⟨m, t, k, n, r, l⟩, 0) := by
  rw [hst]
  unfold headP
  rw [if_neg (by omega)]
  simp only
  rw [f3, if_neg (by simp), if_neg (by rw [List.length_map]; omega), hal, if_neg (by simp)]
 have hls2 : lsum (ls ++ [[]]) = lsum ls + 2 := by unfold lsum; simp
 have hrd := rdL_enc 65536 (ls ++ [[]]) q 0 (fun x hx => by
  rcases List.mem_append.1 hx with hx | hx
  ·exact (hno x hx).1
  ·rw [List.mem_singleton.1 hx]; intro b hb; cases hb) (by rw [hls2]; omega)
 rw [← hp] at hrd
 unfold gotP
 rw [hrd]
 show gotZ (rdL 65536 q (0 + lsum (ls ++ [[]])) [] false).2 (scanP kind 1000 0 (ls ++ [[]] ++ (rdL 65536 q (0 + lsum (ls ++ [[]])) [] false).1) 0 []) = _
 rw [List.append_assoc]
 show gotZ _ (scanP kind 1000 0 (ls ++ [] :: (rdL 65536 q (0 + lsum (ls ++ [[]])) [] false).1) 0 []) = _
 rw [scanP_all kind 1000 0 ls _ 0 [] (fun x hx => (hno x hx).2) (by rw [hst]; simp), List.nil_append, hH]
 show (⟨⟨m, t, k, n, r, l⟩, ((0 + (lsum ls + 2) : Nat) : Int), true, 0, true⟩ : GotS) = _
 rw [hlen, Nat.zero_add]
theorem one_back {m t r s : ByteArray} {k n fk fl : Int} {l tr : List Fd} {z : List Int} {T : ByteArray} (method : ByteArray) (q : List UInt8) (hm : msgRes m t k n r l fk fl s z tr = (T, 0)) (hsh : shortM m t r s l z.length tr = true) (hk3 : fk ≠ 3)
 (hfr : frmP (if m.size ≠ 0 then 1 else 2) ⟨m, t, k, n, r, l⟩ method = (fk, fl, 0)) (hz : (printB m t k n r l).size ≤ 65000) :
 oneP wideL false (if m.size ≠ 0 then 1 else 2) method (T.data.toList ++ q) = .whole ⟨⟨m, t, k, n, r, l⟩, fk, fl, s.data.toList, z, tr⟩ T.size := by
 obtain ⟨s1, s2, s3, s4⟩ := shortM_ok hsh
 obtain ⟨u1, _, _, _, _⟩ := shortP_ok s1
 unfold msgRes at hm
 by_cases hR : rightP m t k n r l = false
 ·rw [if_pos hR] at hm; cases hm
 rw [if_neg hR] at hm
 by_cases hE : (bodyRes fk fl z s tr).2 ≠ 0
 ·rw [if_pos hE] at hm
  exact absurd (Prod.mk.inj hm).2 hE
 rw [if_neg hE] at hm
 obtain ⟨⟨B, E⟩, hB⟩ : ∃ b, bodyRes fk fl z s tr = b := ⟨_, rfl⟩
 rw [hB] at hm hE
 have hE0 : E = 0 := Decidable.not_not.1 hE
 subst hE0
 have hT : printB m t k n r l ++ B = T := (Prod.mk.inj hm).1
 have hR1 : rightP m t k n r l = true := by cases e : rightP m t k n r l with | true => rfl | false => exact absurd e hR
 have hdat : T.data.toList ++ q = (printB m t k n r l).data.toList ++ (B.data.toList ++ q) := by rw [← hT]; simp
 have hsz : T.size = (printB m t k n r l).size + B.size := by rw [← hT, ByteArray.size_append]
 have g1 := got_head m t r k n l (B.data.toList ++ q) hR1 (by omega) hz
 have g2 := got_body (t := B) q hB hk3 (by omega) (by omega) s2
 rw [hdat]
 unfold oneP
 rw [if_neg (show ¬ (wideL.head < 0 ∨ 65536 < wideL.head) by decide)]
 rw [show wideL.fields = 1000 from rfl, show wideL.fold = 0 from rfl, show wideL.head = 65536 from rfl, g1]
 simp only [ne_eq, not_true_eq_false, if_false, Bool.true_eq_false]
 have hd2 : ((printB m t k n r l).data.toList ++ (B.data.toList ++ q)).drop ((printB m t k n r l).size : Int).toNat = B.data.toList ++ q := by
  rw [Int.toNat_natCast, Lib.size_eq, List.drop_left]
 rw [hd2]
 unfold bodyP
 rw [hfr]
 simp only [ne_eq, not_true_eq_false, if_false]
 rw [g2]
 simp only [ne_eq, not_true_eq_false, if_false, Bool.true_eq_false]
 rw [Int.toNat_natCast, hsz]
end Go.Proofs.YtaojfiegnebbdaaGreatDoor
-- MbW
namespace Go.Proofs.YtaojfiegnebbdaaGreatDoor
open Go.RowKit
theorem reqs_first {m : Lm} {c : Bool} {x : List UInt8} {M : MsgP} {u : Nat} (h : oneP m c 1 ⟨#[]⟩ x = .whole M u) (f : Nat) : ∃ C, (reqsP m c (f + 1) x 0 []).1 = M :: C := by
 rw [reqsP, h]
 obtain ⟨C, hC⟩ := (reqsP_acc m c f (x.drop u) (0 + u) ([] ++ [M])).1
 exact ⟨C, by rw [hC]; rfl⟩
theorem resps_one {m : Lm} {c : Bool} {x : List UInt8} {t : ByteArray} {M : MsgP} {u : Nat} (h : oneP m c 2 t x = .whole M u) (hn : 199 < M.hd.n) (f : Nat) : respsP m c (f + 2) [t] x 0 [] = ([M], (if x.drop u ≠ [] then 3 else 0, u, 0)) := by
 show (match oneP m c 2 t x with
  | .tail k e => ([], (k, 0, e))
  | .whole M u => respsP m c (f + 1) (if 199 < M.hd.n then [] else [t]) (x.drop u) (0 + u) ([] ++ [M])) = _
 rw [h]
 show respsP m c (f + 1) (if 199 < M.hd.n then [] else [t]) (x.drop u) (0 + u) ([] ++ [M]) = _
 rw [if_pos hn, Nat.zero_add]
 rfl
theorem msgRes_err {m t r s : ByteArray} {k n fk fl : Int} {fs tr : List Fd} {z : List Int} {T : ByteArray} {E : Int} (h : msgRes m t k n r fs fk fl s z tr = (T, E)) (hE : E ≠ 0) : T = ⟨#[]⟩ := by
 unfold msgRes at h
 repeat' split at h
 ·exact (Prod.mk.inj h).1.symm
 ·exact (Prod.mk.inj h).1.symm
 ·exact absurd (Prod.mk.inj h).2.symm hE
theorem bprintA_low : ∀ (l : List Fd) (o : ByteArray), (∀ g ∈ l, g.1.size ≤ 300 ∧ g.2.size ≤ 300) → (printA o l).size ≤ o.size + 604 * l.length
 | [], o, _ => nR _
 | f :: l, o, h => by
   have h1 := bprintA_low l (o ++ frow f) (fun g hg => h g (by simp [hg]))
   have h2 := frow_size f
   have h3 := h f (by simp)
   have h4 : printA o (f :: l) = printA (o ++ frow f) l := rfl
   rw [h4, List.length_cons]
   rw [ByteArray.size_append] at h1
   omega
theorem bprint_low {m t r : ByteArray} {l : List Fd} (k n : Int) (h : shortP m t r l = true) (hn : -9223372036854775808 ≤ n) (hn' : n ≤ 9223372036854775807) : (printB m t k n r l).size ≤ 65000 := by
 obtain ⟨s1, s2, s3, s4, s5⟩ := shortP_ok h
 have h1 := lineB_size m t r k n s3 s4 s5 hn hn'
 have hl : ∀ g ∈ l, g.1.size ≤ 300 ∧ g.2.size ≤ 300 := by
  unfold shortP fewF at h
  simp only [Bool.and_eq_true, decide_eq_true_eq, List.all_eq_true] at h
  intro g hg
  have := h.1.2 g hg
  omega
 have h2 := bprintA_low l (lineB m t k n r ++ crlf) hl
 unfold printB
 rw [ByteArray.size_append]
 rw [ByteArray.size_append] at h2
 have h3 : crlf.size = 2 := rfl
 omega
theorem bodyRes_low {k n : Int} {z : List Int} {s : ByteArray} {l : List Fd} (hs : s.size ≤ 2000) (hz : z.length ≤ 300) (hl : fewF l = true) : (bodyRes k n z s l).1.size ≤ 30000 := by
 obtain ⟨hl1, hl2⟩ := few_low hl
 have hlsum := lsum_flds l hl2
 unfold bodyRes
 split
 ·decide
 split
 ·split
  ·exact nT hs (by decide)
  ·decide
 split
 ·decide
 rename_i hc
 split
 ·decide
 have hc' : cutF z s.size = some 0 := by
  cases e : cutF z s.size with
  | none => exact absurd (by rw [e]; simp) hc
  | some y =>
    by_cases hy : y = 0
    ·rw [hy]
    ·exact absurd (by rw [e]; simp [hy]) hc
 obtain ⟨hpos, hoff, _⟩ := cutF_off hc'
 have hoff' : offK z z.length = s.size := by omega
 have hmem := cutP_mem s z hpos hoff'
 have hcat := (cutP_spec s z hpos hoff' z.length (nR _)).1
 have hlen := encC_len (cutP s z z.length) (fun p hp => by have := (hmem p hp).2; omega)
 rw [hcat, List.length_take, cutP_length] at hlen
 have hd : (chunksL (cutP s z z.length) ++ lastB l).data.toList = encC (cutP s z z.length) ++ (48 :: 13 :: 10 :: (encL (l.map fun f => (flineB f.1 f.2).data.toList) ++ 13 :: 10 :: [])) := by
  have : ∀ a b : ByteArray, (a ++ b).data.toList = a.data.toList ++ b.data.toList := fun a b => by simp
  rw [this, last_enc]
  unfold chunksL
  rw [chunks_enc _ _ (fun p hp => (hmem p hp).1)]
  rfl
 show (chunksL (cutP s z z.length) ++ lastB l).size ≤ _
 rw [Lib.size_eq, hd]
 simp only [List.length_append, List.length_cons, List.length_nil, encL_length]
 omega
theorem msgRes_size {m t r s : ByteArray} {k n fk fl : Int} {fs tr : List Fd} {z : List Int} (hsh : shortM m t r s fs z.length tr = true) (hn : -9223372036854775808 ≤ n) (hn' : n ≤ 9223372036854775807) : (msgRes m t k n r fs fk fl s z tr).1.size ≤ 95000 := by
 obtain ⟨s1, s2, s3, s4⟩ := shortM_ok hsh
 have h1 := bprint_low k n s1 hn hn'
 have h2 := bodyRes_low (k := fk) (n := fl) (s := s) (z := z) (l := tr) (by omega) (by omega) s2
 have h3 : (⟨#[]⟩ : ByteArray).size ≤ 95000 := by decide
 unfold msgRes
 split
 ·exact h3
 split
 ·exact h3
 ·rw [ByteArray.size_append]; omega
theorem bfds_few {fs : List Fd} (h : fs.length ≤ 50) (hg : ∀ g ∈ fs, g.1.size ≤ 1000 ∧ g.2.size ≤ 1000) : FdsOk fs := by
 refine ⟨by omega, fun g m => by have := (hg g m).1; omega, fun g m => by have := (hg g m).2; omega, ?_⟩
 have h1 := joinL_size (allB fs teB) 1000 (fun s hs => by
  unfold allB at hs
  obtain ⟨q, hq, rfl⟩ := List.mem_map.1 hs
  exact (hg q (List.mem_filter.1 hq).1).2)
 have h2 := allB_len fs teB
 have h3 : (allB fs teB).length * (1000 + 2) ≤ 50 * (1000 + 2) := Nat.mul_le_mul_right _ (by omega)
 omega
theorem reqP_ne3 {fs : List Fd} {k a b : Int} (h : reqP fs k = (a, b, 0)) : a ≠ 3 := by
 unfold reqP at h
 split at h
 ·cases h
 split at h
 ·have := (Prod.mk.inj h).1; omega
 ·rename_i h1
  intro e
  exact h1 (by rw [h]; exact e)
theorem strs_one {V : World} {g c : Nat} {me : ByteArray} {t : TypeId} [h : Rw V g #[.string me] t] : Strs V (.slice (some ⟨g, 0, none⟩) 1 c) [me] :=
 ⟨_, _, rfl, fun i hi => ⟨g, 0, rfl, by
  have : i = 0 := by simpa using hi
  subst this
  exact h.b.cell 0⟩⟩
theorem one_cells {V w' : World} {v : Value} {l : List (MsgP × MsgV)} {M : MsgP} {C : List MsgP} (h : Msgs w' v l) (hl : l.map (·.1) = M :: C) : ∃ b off c U, v = .slice (some ⟨b, off, none⟩) (C.length + 1) c ∧ (∀ j, j < 11 → w'.cell? ⟨b, off + j, none⟩ = (msgL (M, U))[j]?) ∧ MsgRd w' (M, U) := by
 obtain ⟨p, c, rfl, hc, hr⟩ := h
 cases l with
 | nil => cases hl
 | cons q l =>
   have e1 : q.1 = M := (List.cons.inj hl).1
   have e2 : l.map (·.1) = C := (List.cons.inj hl).2
   obtain ⟨b, off, rfl, hj⟩ := hc 0 (by simp)
   obtain ⟨q1, U⟩ := q
   subst e1 e2
   refine ⟨b, off, c, U, by simp, fun j h => ?_, hr _ (by simp)⟩
   have := hj j h
   simpa using this
theorem back_req {V : World} {x : ByteArray} {M : MsgP} {u : Nat} {mx : Int} (hm : V.cell? ⟨0, 0, none⟩ = some (.int .i64 mx)) (hx : x.size ≤ 100000) (h : oneP wideL false 1 ⟨#[]⟩ x.data.toList = .whole M u) :
 Calls Tryz.prog 22 #[.string x, .bool false, .agg #[.int .i64 65536, .int .i64 1000, .int .i64 100, .int .i64 0, .int .i64 0]] V fun e w' => ∃ b off c n U y1 y2 y3, e = .returned (.tuple #[.slice (some ⟨b, off, none⟩) (n + 1) c, .agg #[.int .i64 y1, .int .i64 y2, .int .i64 y3]]) ∧ (∀ j, j < 11 → w'.cell? ⟨b, off + j, none⟩ = (msgL (M, U))[j]?) ∧ MsgRd w' (M, U) ∧ Below V.heap.size V w' := by
 refine (mreqs_any x false 65536 1000 100 0 0 V (by decide) hm hx rfl).mono ?_
 rintro e w' ⟨v, l, rfl, h2, h3, h4, h5⟩
 obtain ⟨C, hC⟩ := reqs_first h x.size
 obtain ⟨b, off, c, U, rfl, h6, h7⟩ := one_cells (V := V) (h3.msgs h4) (h2.trans hC)
 exact ⟨b, off, c, _, U, _, _, _, rfl, h6, h7, h5⟩
theorem back_resp {V : World} {x me : ByteArray} {vm : Value} (hv : Strs V vm [me]) {M : MsgP} {u : Nat} {mx : Int} (hm : V.cell? ⟨0, 0, none⟩ = some (.int .i64 mx)) (hx : x.size ≤ 100000) (h : oneP wideL false 2 me x.data.toList = .whole M u) (hn : 199 < M.hd.n) :
 Calls Tryz.prog 26 #[.string x, .bool false, vm, .agg #[.int .i64 65536, .int .i64 1000, .int .i64 100, .int .i64 0, .int .i64 0]] V fun e w' => ∃ b off c U, e = .returned (.tuple #[.slice (some ⟨b, off, none⟩) 1 c, .agg #[.int .i64 (if x.data.toList.drop u ≠ [] then 3 else 0), .int .i64 (u : Int), .int .i64 0]]) ∧ (∀ j, j < 11 → w'.cell? ⟨b, off + j, none⟩ = (msgL (M, U))[j]?) ∧ MsgRd w' (M, U) ∧ Below V.heap.size V w' := by
 have hu := (oneP_used h).1
 have hxs : 0 < x.size := by
  have := (oneP_used h).2
  rw [Lib.size_eq]
  omega
 obtain ⟨f, hf⟩ : ∃ f, x.size + 1 = f + 2 := ⟨x.size - 1, by omega⟩
 refine (mresps_any x false vm [me] 65536 1000 100 0 0 V hv (by simp) (by decide) hm hx rfl).mono ?_
 rintro e w' ⟨v, l, rfl, h2, h3, h4, h5⟩
 rw [hf, show (⟨65536, 1000, 100, 0, 0⟩ : Lm) = wideL from rfl, resps_one h hn f] at h2
 obtain ⟨b, off, c, U, rfl, h6, h7⟩ := one_cells (V := V) (h3.msgs h4) h2
 refine ⟨b, off, c, U, ?_, h6, h7, h5⟩
 rw [hf, show (⟨65536, 1000, 100, 0, 0⟩ : Lm) = wideL from rfl, resps_one h hn f]
 rfl
theorem mback_any {W : World} {m t r s me bh : ByteArray} {k n fk fl : Int} {Af Az At : Option Addr} {lf lz lt cf cz ct : Nat} {fs : List Fd} {z : List Int} {tr : List Fd} (h : MsgArg W m t r s k n fk fl Af Az At lf lz lt fs z tr) {mx : Int} (hmx : W.cell? ⟨0, 0, none⟩ = some (.int .i64 mx)) (hbs : bh.size ≤ 9223372036854775807) :
 Calls Tryz.prog 5 #[.agg #[.string m, .string t, .int .i64 k, .int .i64 n, .string r, .slice Af lf cf, .int .i64 fk, .int .i64 fl, .string s, .slice Az lz cz, .slice At lt ct], .string me, .string bh] W fun e w' => e = .returned (.bool true) ∧ Below W.heap.size W w' := by
 have h0 : 0 < W.heap.size := World.block_lt_of_cell? W _ hmx
 have HLV := lH fun V [o : Ov W V] => mlives_any (mx_below' hmx h0 o.b)
 have HWD := lH mwide_any
 obtain ⟨K, hK⟩ : ∃ K : Nat, min (bh.size : Int) 300 = (K : Int) := ⟨min bh.size 300, by omega⟩
 obtain ⟨B, hB, hBs⟩ : ∃ B, bh.extract 0 K = B ∧ B.size ≤ 300 := ⟨_, rfl, by rw [ByteArray.size_extract]; omega⟩
 obtain ⟨b, hb⟩ : ∃ b, shortM m t r s fs lz tr = b := ⟨_, rfl⟩
 have HS := lH fun V [o : Ov W V] => mshort_any (cf := cf) (cz := cz) (ct := ct) (h.below o.b)
 rw [hb] at HS
 have hmin : (if (300 : Int) < (bh.size : Int) then (300 : Int) else (bh.size : Int)) = (K : Int) := by rw [← hK]; omega
 have hsl : ∀ W : World, (Instr.slice 9 (.string bh) none (some (.int .i64 (K : Int))) none).run Tryz.prog W = .ok (.string B) W := fun W => by
  rw [run_slice_string_h W 9 bh Tryz.underlying9 .i64 (K : Int) (by omega) (by omega), Int.toNat_natCast, hB]
 cases b
 ·clear hmx hb
  go_enter Tryz.func5, Tryz.ntmps5
  go_wp2_with (first
   | (go_at_call 17; refine (HS.out _).mono ?_; rintro e1 w1 ⟨rfl, hb⟩; obtain ⟨_, _, _, _, _⟩ := adv (w := W) hb; clear hb)
   | (go_at_call 18; refine (HLV.out _).mono ?_; rintro e2 w2 ⟨rfl, hb⟩; obtain ⟨_, _, _, _, _⟩ := adv (w := W) hb; clear hb))
  go_ret
  exact ⟨rfl, Ov.of⟩
 ·obtain ⟨s1, s2, s3, s4⟩ := shortM_ok hb
  obtain ⟨u1, u2, u3, u4, u5⟩ := shortP_ok s1
  have hlf := h.f.1
  have ok := bfds_few (by omega) u2
  have HP := lH fun V [o : Ov W V] => mprint_any (cf := cf) (cz := cz) (ct := ct) (h.below o.b) s1 s2 s3 s4
  have HF := lH fun V [o : Ov W V] => request_fr_any m t r k n (.slice Af lf cf) fs V ((flds_of h.f).below o.b) ok
  have HG := lH fun V [o : Ov W V] => response_any m t r k n (.slice Af lf cf) fs me V ((flds_of h.f).below o.b) ok
  obtain ⟨⟨T, E⟩, hq⟩ : ∃ q, msgRes m t k n r fs fk fl s z tr = q := ⟨_, rfl⟩
  obtain ⟨⟨a1, b1, e1⟩, hr1⟩ : ∃ q, reqP fs k = q := ⟨_, rfl⟩
  obtain ⟨⟨a2, b2, e2⟩, hr2⟩ : ∃ q, respP fs k n me = q := ⟨_, rfl⟩
  rw [hq] at HP
  rw [hr1] at HF
  rw [hr2] at HG
  have hT : T.size ≤ 95000 := by
   have := msgRes_size (fk := fk) (fl := fl) (k := k) (r := r) (m := m) (t := t) (n := n) (s := s) (fs := fs) (tr := tr) (z := z) (by rw [h.z.1]; exact hb) h.hn.1 h.hn.2
   rw [hq] at this
   exact this
  have hbo : ∀ method q, (E != 0) = false → fk ≠ 3 → frmP (if m.size ≠ 0 then 1 else 2) ⟨m, t, k, n, r, fs⟩ method = (fk, fl, 0) → oneP wideL false (if m.size ≠ 0 then 1 else 2) method (T.data.toList ++ q) = .whole ⟨⟨m, t, k, n, r, fs⟩, fk, fl, s.data.toList, z, tr⟩ T.size := fun method q h1 h2 h3 => by
   have hE : E = 0 := by simpa using h1
   subst hE
   exact one_back method q hq (by rw [h.z.1]; exact hb) h2 h3 (bprint_low k n s1 h.hn.1 h.hn.2)
  have HM : Hid (MsgRd W (⟨⟨m, t, k, n, r, fs⟩, fk, fl, s.data.toList, z, tr⟩, ⟨.slice Af lf cf, .slice Az lz cz, .slice At lt ct⟩)) := ⟨flds_of h.f, nums_of h.z, flds_of h.t⟩
  have HOK : Hid (MsgOk ⟨⟨m, t, k, n, r, fs⟩, fk, fl, s.data.toList, z, tr⟩) := ⟨by show fs.length ≤ _; omega, by show z.length ≤ _; rw [h.z.1]; omega, by show tr.length ≤ _; have := (few_low s2).1; omega⟩
  have HMT : Hid (E ≠ 0 → T = ⟨#[]⟩) := msgRes_err hq
  have hcat : (T ++ B).data.toList = T.data.toList ++ B.data.toList := by simp
  have hcs : (T ++ B).size ≤ 100000 := by rw [ByteArray.size_append]; omega
  have HRQ : Hid ((E != 0) = false → (!m.toList.isEmpty) = true → a1 = fk → b1 = fl → (e1 != 0) = false → ∀ V [Ov W V], Calls Tryz.prog 22 #[.string (T ++ B), .bool false, .agg #[.int .i64 65536, .int .i64 1000, .int .i64 100, .int .i64 0, .int .i64 0]] V fun e w' => ∃ b off c nn U y1 y2 y3, e = .returned (.tuple #[.slice (some ⟨b, off, none⟩) (nn + 1) c, .agg #[.int .i64 y1, .int .i64 y2, .int .i64 y3]]) ∧ (∀ j, j < 11 → w'.cell? ⟨b, off + j, none⟩ = (msgL (⟨⟨m, t, k, n, r, fs⟩, fk, fl, s.data.toList, z, tr⟩, U))[j]?) ∧ MsgRd w' (⟨⟨m, t, k, n, r, fs⟩, fk, fl, s.data.toList, z, tr⟩, U) ∧ Below V.heap.size V w') := by
   intro h1 h2 rfl rfl h5 V o
   have he : e1 = 0 := by simpa using h5
   subst he
   have hm : m.size ≠ 0 := fun e => by rw [isEmpty_list, List.eq_nil_of_length_eq_zero (l := m.data.toList) (by rw [← Lib.size_eq]; exact e)] at h2; cases h2
   refine back_req (u := T.size) (mx_below' hmx h0 o.b) hcs ?_
   rw [hcat]
   have := hbo ⟨#[]⟩ B.data.toList h1 (reqP_ne3 hr1) (by rw [if_pos hm]; exact hr1)
   rw [if_pos hm] at this
   exact this
  have HRS : Hid ((E != 0) = false → (!m.toList.isEmpty) = false → a2 = fk → b2 = fl → e2 = 0 → ¬ fk = 3 → (fk == 3) = false ∧ 200 ≤ n → ∀ V vm [Ov W V], Strs V vm [me] → Calls Tryz.prog 26 #[.string (T ++ B), .bool false, vm, .agg #[.int .i64 65536, .int .i64 1000, .int .i64 100, .int .i64 0, .int .i64 0]] V fun e w' => ∃ b off c U, e = .returned (.tuple #[.slice (some ⟨b, off, none⟩) 1 c, .agg #[.int .i64 (if B.data.toList ≠ [] then 3 else 0), .int .i64 (T.size : Int), .int .i64 0]]) ∧ (∀ j, j < 11 → w'.cell? ⟨b, off + j, none⟩ = (msgL (⟨⟨m, t, k, n, r, fs⟩, fk, fl, s.data.toList, z, tr⟩, U))[j]?) ∧ MsgRd w' (⟨⟨m, t, k, n, r, fs⟩, fk, fl, s.data.toList, z, tr⟩, U) ∧ Below V.heap.size V w') := by
   intro h1 h2 rfl rfl rfl h6 h7 V vm o hv
   have hm : ¬ m.size ≠ 0 := fun e => by
    rw [isEmpty_list] at h2
    cases hd : m.data.toList with
    | nil => exact e (by rw [Lib.size_eq, hd]; rfl)
    | cons _ _ => rw [hd] at h2; cases h2
   have hone := hbo me B.data.toList h1 h6 (by rw [if_neg hm]; unfold frmP; rw [if_neg (by decide), hr2, if_neg (by rintro ⟨_, h9⟩; have : n = 101 := h9; omega)])
   rw [if_neg hm, ← hcat] at hone
   have := back_resp hv (mx_below' hmx h0 o.b) hcs hone (by show 199 < n; omega)
   rw [hcat, Lib.size_eq, List.drop_left, ← Lib.size_eq] at this
   exact this
  clear h hmx hbo hcat hcs
  go_enter Tryz.func5, Tryz.ntmps5
  go_wp2_with (first
   | (go_at_call 17; refine (HS.out _).mono ?_; rintro x1 w1 ⟨rfl, hb⟩; obtain ⟨_, _, _, _, _⟩ := adv (w := W) hb; clear hb)
   | (go_at_call 18; refine (HLV.out _).mono ?_; rintro x1 w1 ⟨rfl, hb⟩; obtain ⟨_, _, _, _, _⟩ := adv (w := W) hb; clear hb)
   | (go_at_call 19; refine (HP.out _).mono ?_; rintro x1 w1 ⟨rfl, hb⟩; obtain ⟨_, _, _, _, _⟩ := adv (w := W) hb; clear hb)
   | (go_at_call 21; refine (HF.out _).mono ?_; rintro x1 w1 ⟨rfl, hb⟩; obtain ⟨_, _, _, _, _⟩ := adv (w := W) hb; clear hb)
   | (go_at_call 25; refine (HG.out _).mono ?_; rintro x1 w1 ⟨rfl, hb⟩; obtain ⟨_, _, _, _, _⟩ := adv (w := W) hb; clear hb)
   | (go_at_call 23; refine (HWD.out _).mono ?_; rintro x1 w1 ⟨rfl, hb⟩; obtain ⟨_, _, _, _, _⟩ := adv (w := W) hb; clear hb)
   | (go_at_call 22; refine (HRQ.out ‹_› ‹_› ‹_› ‹_› ‹_› _).mono ?_; rintro x1 w1 ⟨b, off, c, nn, U, y1, y2, y3, rfl, hj, hu, hb⟩; have HJ := lH hj; have HU := lH hu; obtain ⟨_, _, _, _, _⟩ := adv (w := W) hb; clear hb hj hu)
   | (go_at_call 26; refine (HRS.out ‹_› ‹_› ‹_› ‹_› ‹_› ‹_› ‹_› _ _ strs_one).mono ?_; rintro x1 w1 ⟨b, off, c, U, rfl, hj, hu, hb⟩; have HJ := lH hj; have HU := lH hu; obtain ⟨_, _, _, _, _⟩ := adv (w := W) hb; clear hb hj hu))
  all_goals try (go_ret; exact ⟨rfl, Ov.of⟩)
  ·rename_i he ht
   exact absurd (by rw [HMT.out (by simpa using he), ByteArray.toList_eq]) ht
  all_goals
   have x0 := HJ.out 0 (by decide)
   have x1 := HJ.out
   simp only [msgL, strL_data] at x0 x1
   simp at x0
   have HSM : Hid (∀ V [Ov W V] [Ov w1 V], Calls Tryz.prog 24 #[.agg #[.string m, .string t, .int .i64 k, .int .i64 n, .string r, U.f, .int .i64 fk, .int .i64 fl, .string s, U.z, U.t], .agg #[.string m, .string t, .int .i64 k, .int .i64 n, .string r, .slice Af lf cf, .int .i64 fk, .int .i64 fl, .string s, .slice Az lz cz, .slice At lt ct]] V fun e w' => e = .returned (.bool true) ∧ Below V.heap.size V w') := by
    intro V o1 o2
    have := msame_eq _ U _ V (HU.out.below o2.b) (HM.out.below o1.b) HOK.out
    simpa only [msgL, strL_data] using this
   have i1 : In b w1 := ⟨World.block_lt_of_cell? _ _ x0⟩
  ·refine regC (by kernel_rfl) (by kernel_rfl) fun _ _ _ => ?_
   repeat go_big_quiet_step ((first
    | (go_at_call 24; exact callC (HSM.out _))
    | (go_at_call 18; exact callC (HLV.out _))))
   refine wpQuiet_nil ?_
   rintro _ ⟨s, rfl⟩
   go_wp2_with fail
   go_ret
   exact ⟨rfl, Ov.of⟩
  all_goals
   first | (have hBl : B.toList.isEmpty = true := by rw [isEmpty_list, ‹B.data = #[]›]; rfl) | (have hBl : B.toList.isEmpty = false := by rw [isEmpty_list]; cases hd : B.data.toList with
    | nil => exact absurd (by apply Array.ext'; exact hd) ‹¬ B.data = #[]›
    | cons _ _ => rfl)
   refine regC (by kernel_rfl) (by kernel_rfl) fun _ _ _ => ?_
   repeat go_big_quiet_step ((first
    | (go_at_call 24; exact callC (HSM.out _))
    | (go_at_call 18; exact callC (HLV.out _))))
   refine wpQuiet_nil ?_
   rintro _ ⟨s, rfl⟩
   go_wp2_with fail
   go_ret
   exact ⟨rfl, Ov.of⟩
end Go.Proofs.YtaojfiegnebbdaaGreatDoor