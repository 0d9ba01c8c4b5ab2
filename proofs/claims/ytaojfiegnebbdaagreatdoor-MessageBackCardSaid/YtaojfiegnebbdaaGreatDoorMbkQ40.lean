/- Texts packed for one claim, 40 of 52: EbA RbQ MsA MsP EbB MsG. -/
import Derived.Test.YtaojfiegnebbdaaGreatDoorMbkQ27
import Derived.Test.YtaojfiegnebbdaaGreatDoorMbkQ36
import Derived.Test.YtaojfiegnebbdaaGreatDoorMbkQ37
import Derived.Test.YtaojfiegnebbdaaGreatDoorMbkQ2
import Derived.Test.YtaojfiegnebbdaaGreatDoorMbkQ31
import Derived.Test.YtaojfiegnebbdaaGreatDoorMbkQ6
import Derived.Test.YtaojfiegnebbdaaGreatDoorMbkQ39
set_option maxRecDepth 100000
set_option maxHeartbeats 16000000
set_option linter.unusedSimpArgs false
set_option linter.unusedVariables false
-- EbA
namespace Go.Proofs.YtaojfiegnebbdaaGreatDoor
open Go.RowKit
theorem seeP_char {s : LnS} {c : UInt8} (h10 : c ≠ 10) (h13 : c ≠ 13) (hw : s.whole = false) (ht : s.turn = false) (hl : 1 ≤ s.left) : seeP s c = ({ s with line := s.line ++ [c], left := s.left - 1, spent := s.spent + 1, within := true }, 0) := by
 unfold seeP
 rw [if_neg (by omega), if_neg (by rw [ht, dF h10]; simp), if_neg h13, if_neg h10, hw]
 rfl
theorem lnFeed_line : ∀ (x r : List UInt8) (s : LnS), noB x → s.whole = false → s.turn = false → s.e = 0 → (x.length : Int) + 2 ≤ s.left →
 lnFeed (x ++ 13 :: 10 :: r) s = ({ s with left := s.left - (x.length + 2), spent := s.spent + (x.length + 2), line := s.line ++ x, within := false, turn := false, whole := true, e := 0 }, x.length + 2)
 | [], r, s, _, hw, ht, he, hl => by
   obtain ⟨L, S, Ln, Wi, Tu, Wh, E⟩ := s
   simp only at hw ht he hl
   subst hw ht he
   have e1 : seeP ⟨L, S, Ln, Wi, false, false, 0⟩ 13 = (⟨L - 1, S + 1, Ln, true, true, false, 0⟩, 0) := by
    unfold seeP
    rw [if_neg (by simp only; simp at hl; omega), if_neg (by show ¬ (false ≠ decide ((13 : UInt8) = 10)); decide), if_pos rfl]
    rfl
   have e2 : seeP ⟨L - 1, S + 1, Ln, true, true, false, 0⟩ 10 = (⟨L - 1 - 1, S + 1 + 1, Ln, false, false, true, 0⟩, 0) := by
    unfold seeP
    rw [if_neg (by simp only; simp at hl; omega), if_neg (by show ¬ (true ≠ decide ((10 : UInt8) = 10)); decide), if_neg (by decide), if_pos rfl]
   rw [List.nil_append, lnFeed, if_neg (by simp), e1, if_pos rfl, lnFeed, if_neg (by simp), e2, if_pos rfl, lnFeed_stop _ _ (Or.inl rfl)]
   simp
   omega
 | c :: x, r, s, hb, hw, ht, he, hl => by
   obtain ⟨h10, h13⟩ := hb c (by simp)
   rw [List.length_cons] at hl
   have hl' : (x.length : Int) + 3 ≤ s.left := by omega
   rw [List.cons_append, lnFeed, if_neg (by rw [hw, he]; simp), seeP_char h10 h13 hw ht (by omega), if_pos rfl,
    lnFeed_line x r { s with line := s.line ++ [c], left := s.left - 1, spent := s.spent + 1, within := true, e := 0 } (fun b hb' => hb b (by simp [hb'])) hw ht rfl (by show (x.length : Int) + 2 ≤ s.left - 1; omega)]
   simp
   omega
theorem figD_hex {d : Nat} (h : d < 16) : digV (figD d).toNat = d ∧ figD d ≠ 10 ∧ figD d ≠ 13 := by
 rcases (by omega : d = 0 ∨ d = 1 ∨ d = 2 ∨ d = 3 ∨ d = 4 ∨ d = 5 ∨ d = 6 ∨ d = 7 ∨ d = 8 ∨ d = 9 ∨ d = 10 ∨ d = 11 ∨ d = 12 ∨ d = 13 ∨ d = 14 ∨ d = 15) with rfl | rfl | rfl | rfl | rfl | rfl | rfl | rfl | rfl | rfl | rfl | rfl | rfl | rfl | rfl | rfl <;> decide
theorem figL_hexd (n : Nat) : ∀ c ∈ figL 16 n, ∃ d, d < 16 ∧ c = figD d := by
 induction n using Nat.strongRecOn with
 | ind n ih =>
   intro c hc
   rw [figL] at hc
   split at hc
   ·rcases List.mem_append.1 hc with hc | hc
    ·exact ih _ (Nat.div_lt_self (by omega) (by omega)) c hc
    ·exact ⟨n % 16, by omega, by simpa using hc⟩
   ·exact ⟨n, by omega, by simpa using hc⟩
theorem figL_hexv (n : Nat) : numV 16 (figL 16 n) = n := by
 induction n using Nat.strongRecOn with
 | ind n ih =>
   rw [figL]
   split
   ·rw [numV_snoc, ih _ (Nat.div_lt_self (by omega) (by omega)), (figD_hex (Nat.mod_lt _ (by decide))).1]
    omega
   ·show (0 : Int) * 16 + digV (figD n).toNat = n
    rw [(figD_hex (by omega)).1]
    omega
theorem figL_hexlen (n : Nat) : ∀ k, n < 16 ^ (k + 1) → (figL 16 n).length ≤ k + 1 := by
 intro k
 induction k generalizing n with
 | zero =>
   intro h
   rw [figL, dif_neg (by omega)]
   exact nR _
 | succ k ih =>
   intro h
   rw [figL]
   split
   ·rw [List.length_append]
    have := ih (n / 16) (by rw [Nat.pow_succ] at h; exact Nat.div_lt_of_lt_mul (by omega))
    simp only [List.length_singleton]
    omega
   ·simp
theorem noB_hex (n : Nat) : noB (figL 16 n) := fun c hc => by
 obtain ⟨d, hd, rfl⟩ := figL_hexd n c hc
 exact (figD_hex hd).2
theorem takeWhile_all (p : UInt8 → Bool) : ∀ l : List UInt8, (∀ c ∈ l, p c = true) → l.takeWhile p = l
 | [], _ => rfl
 | c :: l, h => by rw [List.takeWhile_cons, if_pos (h c (by simp)), takeWhile_all p l (fun d hd => h d (by simp [hd]))]
theorem chunkP_hex (n : Nat) (h : n ≤ 2147483647) : chunkP (figL 16 n) = ((n : Int), 0) := by
 have hall : ∀ c ∈ figL 16 n, hxdB c = true := fun c hc => by
  obtain ⟨d, hd, rfl⟩ := figL_hexd n c hc
  unfold hxdB digB
  rw [(figD_hex hd).1]
  exact dT (by omega)
 have h1 : (figL 16 n).takeWhile hxdB = figL 16 n := takeWhile_all _ _ hall
 have hne := figL_ne (b := 16) (by decide) n
 have h2 : (figL 16 n).dropWhile hxdB = [] := by
  have := List.takeWhile_append_dropWhile (p := hxdB) (l := figL 16 n)
  rw [h1] at this
  exact List.append_cancel_left (by rw [this, List.append_nil])
 unfold chunkP
 rw [if_neg hne, h1, if_neg hne, h2]
 show numRes (figL 16 n) 16 2147483647 = _
 have h3 : (figL 16 n).isEmpty = false := by
  cases hf : figL 16 n with
  | nil => exact absurd hf hne
  | cons _ _ => rfl
 have h4 : (figL 16 n).all (digB 16) = true := List.all_eq_true.2 (fun c hc => hall c hc)
 unfold numRes
 rw [h3, h4, figL_hexv]
 simp
 omega
def szS (m : Lm) (left : Int) (out : List Pc) : BdS := ⟨.size, left, ln0 m.line, [], [], false, false, 0, out⟩
theorem bRun_one {m : Lm} {f : Nat} {s S : BdS} {x y : List UInt8} {k : Nat} (hx : x ≠ []) (ho : s.opens = true) (hs : bStep m s x = (S, k)) (hd : x.drop k = y) : bRun m (f + 1) s x = ((bRun m f S y).1, k + (bRun m f S y).2) := by
 rw [bRun_go hx ho, hs, hd]
theorem whole_line {s : BdS} {x r : List UInt8} (hx : noB x) (hw : s.ln.whole = false) (ht : s.ln.turn = false) (he : s.ln.e = 0) (hl : (x.length : Int) + 2 ≤ s.ln.left) :
 s.whole (x ++ 13 :: 10 :: r) = ({ s with ln := { s.ln with left := s.ln.left - (x.length + 2), spent := s.ln.spent + (x.length + 2), line := s.ln.line ++ x, within := false, turn := false, whole := true, e := 0 } }, x.length + 2, true) := by
 unfold BdS.whole
 rw [lnFeed_line x r s.ln hx hw ht he hl]
 rfl
theorem drop_line (x r : List UInt8) : (x ++ 13 :: 10 :: r).drop (x.length + 2) = r := by
 rw [List.drop_append, List.drop_eq_nil_of_le (by omega)]
 simp
theorem size_step (m : Lm) (left : Int) (out : List Pc) (n : Nat) (h0 : 0 < n) (h1 : n ≤ 2147483647) (hl : ((figL 16 n).length : Int) + 2 ≤ m.line) (r : List UInt8) :
 ∃ L, bStep m (szS m left out) (figL 16 n ++ 13 :: 10 :: r) = (⟨.data, n, L, [], [], false, false, 0, out ++ [⟨2, n, ⟨#[]⟩⟩]⟩, (figL 16 n).length + 2) := by
 rw [bStep_size rfl, whole_line (noB_hex n) rfl rfl rfl hl]
 have e : (ln0 m.line).line ++ figL 16 n = figL 16 n := rfl
 simp only [szS, e, chunkP_hex n h1]
 rw [if_neg (by decide), if_neg (by decide), if_neg (by omega)]
 exact ⟨_, rfl⟩
theorem data_step (m : Lm) (n : Nat) (L : LnS) (out : List Pc) (p r : List UInt8) (hp : p.length = n) :
 bStep m ⟨.data, n, L, [], [], false, false, 0, out⟩ (p ++ r) = (⟨.cr, 0, L, [], [], false, false, 0, out ++ [⟨3, 0, strL p⟩]⟩, n) := by
 subst hp
 have hm : min ((p ++ r).length : Int) (p.length : Int) = p.length := by rw [List.length_append]; omega
 unfold bStep BdS.some BdS.rest BdS.put strL
 simp only [hm, Int.toNat_natCast, List.take_left, Int.sub_self]
 rfl
theorem chunk_run (m : Lm) (left : Int) (out : List Pc) (p r : List UInt8) (h0 : 0 < p.length) (h1 : p.length ≤ 2147483647) (hl : ((figL 16 p.length).length : Int) + 2 ≤ m.line) (f : Nat) :
 bRun m (f + 4) (szS m left out) (figL 16 p.length ++ 13 :: 10 :: (p ++ 13 :: 10 :: r)) = ((bRun m f (szS m 0 (out ++ [⟨2, p.length, ⟨#[]⟩⟩, ⟨3, 0, strL p⟩])) r).1, (figL 16 p.length ++ 13 :: 10 :: (p ++ [13, 10])).length + (bRun m f (szS m 0 (out ++ [⟨2, p.length, ⟨#[]⟩⟩, ⟨3, 0, strL p⟩])) r).2) := by
 obtain ⟨L, hs⟩ := size_step m left out p.length h0 h1 hl (p ++ 13 :: 10 :: r)
 have hne := figL_ne (b := 16) (by decide) p.length
 have e1 : bRun m (f + 4) (szS m left out) (figL 16 p.length ++ 13 :: 10 :: (p ++ 13 :: 10 :: r)) = _ := bRun_one (f := f + 3) (by simp) rfl hs (drop_line _ _)
 rw [e1, bRun_one (f := f + 2) (by simp) rfl (data_step m p.length L _ p (13 :: 10 :: r) rfl) (List.drop_left' rfl)]
 rw [bRun_one (f := f + 1) (S := ⟨.lf, 0, L, [], [], false, false, 0, out ++ [⟨2, p.length, ⟨#[]⟩⟩] ++ [⟨3, 0, strL p⟩]⟩) (k := 1) (y := 10 :: r) (by simp) rfl rfl rfl]
 rw [bRun_one (f := f) (S := szS m 0 (out ++ [⟨2, p.length, ⟨#[]⟩⟩] ++ [⟨3, 0, strL p⟩])) (k := 1) (y := r) (by simp) rfl rfl rfl]
 rw [List.append_assoc]
 refine Prod.ext rfl ?_
 simp only [List.length_append, List.length_cons, List.length_nil]
 show _ = _
 simp only [List.cons_append, List.nil_append]
 omega
def encC (ps : List ByteArray) : List UInt8 := ps.flatMap fun p => figL 16 p.data.toList.length ++ 13 :: 10 :: (p.data.toList ++ [13, 10])
def outC (ps : List ByteArray) : List Pc := ps.flatMap fun p => [⟨2, p.data.toList.length, ⟨#[]⟩⟩, ⟨3, 0, p⟩]
theorem chunks_run (m : Lm) : ∀ (ps : List ByteArray) (left : Int) (out : List Pc) (r : List UInt8) (f : Nat), (∀ p ∈ ps, 0 < p.data.toList.length ∧ p.data.toList.length ≤ 2147483647 ∧ ((figL 16 p.data.toList.length).length : Int) + 2 ≤ m.line) →
 ∃ left', bRun m (f + 4 * ps.length) (szS m left out) (encC ps ++ r) = ((bRun m f (szS m left' (out ++ outC ps)) r).1, (encC ps).length + (bRun m f (szS m left' (out ++ outC ps)) r).2)
 | [], left, out, r, f, _ => ⟨left, by simp [encC, outC]⟩
 | p :: ps, left, out, r, f, h => by
   obtain ⟨h1, h2, h3⟩ := h p (by simp)
   obtain ⟨left', ih⟩ := chunks_run m ps 0 (out ++ [⟨2, p.data.toList.length, ⟨#[]⟩⟩, ⟨3, 0, strL p.data.toList⟩]) r f (fun q hq => h q (by simp [hq]))
   refine ⟨left', ?_⟩
   have e1 : encC (p :: ps) ++ r = figL 16 p.data.toList.length ++ 13 :: 10 :: (p.data.toList ++ 13 :: 10 :: (encC ps ++ r)) := by
    unfold encC
    simp
   have e2 : out ++ outC (p :: ps) = out ++ [⟨2, p.data.toList.length, ⟨#[]⟩⟩, ⟨3, 0, strL p.data.toList⟩] ++ outC ps := by
    rw [strL_data]
    unfold outC
    simp
   have e3 : (encC (p :: ps)).length = (figL 16 p.data.toList.length ++ 13 :: 10 :: (p.data.toList ++ [13, 10])).length + (encC ps).length := by
    unfold encC
    rw [List.flatMap_cons, List.length_append]
   rw [e1, e2, e3, show f + 4 * (p :: ps).length = (f + 4 * ps.length) + 4 by rw [List.length_cons]; omega, chunk_run m left out p.data.toList (encC ps ++ r) h1 h2 h3, ih]
   exact Prod.ext rfl (by simp only [Nat.add_assoc])
theorem trail_run (m : Lm) (left : Int) (out : List Pc) (l : List Fd) : ∀ (ls : List (List UInt8)) (ln : LnS) (all : List ByteArray) (r : List UInt8) (f : Nat), (∀ x ∈ ls, noB x ∧ x ≠ []) → ln.whole = false → ln.turn = false → ln.e = 0 → ln.line = [] → (lsum ls : Int) + 2 ≤ ln.left →
 allF m.fold (all ++ ls.map strL) = (l, 0) → ((all ++ ls.map strL).length : Int) ≤ m.fields →
 ∃ S, bRun m (f + ls.length + 1) ⟨.trailer, left, ln, all, [], false, false, 0, out⟩ (encL ls ++ 13 :: 10 :: r) = (S, lsum ls + 2) ∧ S.over = true ∧ S.e = 0 ∧ S.tr = l ∧ S.out = out ++ [⟨4, 0, ⟨#[]⟩⟩]
 | [], ln, all, r, f, _, hw, ht, he, hli, hl, ha, hf => by
   have e0 : (encL [] ++ 13 :: 10 :: r) = ([] ++ 13 :: 10 :: r : List UInt8) := rfl
   rw [List.map_nil, List.append_nil] at ha hf
   have hl' : ((([] : List UInt8).length : Nat) : Int) + 2 ≤ ln.left := by
    have : lsum [] = 0 := rfl
    rw [this] at hl
    simpa using hl
   have hst : bStep m ⟨.trailer, left, ln, all, [], false, false, 0, out⟩ ([] ++ 13 :: 10 :: r) = (({ ((⟨.trailer, left, { ln with left := ln.left - (([] : List UInt8).length + 2), spent := ln.spent + (([] : List UInt8).length + 2), line := ln.line ++ [], within := false, turn := false, whole := true, e := 0 }, all, [], false, false, 0, out⟩ : BdS).read { ln with left := ln.left - (([] : List UInt8).length + 2), spent := ln.spent + (([] : List UInt8).length + 2), line := ln.line ++ [], within := false, turn := false, whole := true, e := 0 }) with tr := l } : BdS).ends, ([] : List UInt8).length + 2) := by
    rw [bStep_trailer rfl, whole_line (by intro b hb; cases hb) hw ht he hl']
    simp only [hli, List.append_nil]
    rw [if_neg (by decide), if_neg (by simp), if_neg (by omega), ha]
    simp
   rw [e0, bRun_one (f := f + [].length) (by simp) rfl hst (drop_line [] r), bRun_stop (Or.inr rfl)]
   exact ⟨_, rfl, rfl, rfl, rfl, rfl⟩
 | x :: ls, ln, all, r, f, hb, hw, ht, he, hli, hl, ha, hf => by
   obtain ⟨hx1, hx2⟩ := hb x (by simp)
   have e : lsum (x :: ls) = x.length + 2 + lsum ls := by unfold lsum; simp
   rw [e] at hl ⊢
   have e0 : encL (x :: ls) ++ 13 :: 10 :: r = x ++ 13 :: 10 :: (encL ls ++ 13 :: 10 :: r) := by rw [encL_cons]; simp
   have hst : bStep m ⟨.trailer, left, ln, all, [], false, false, 0, out⟩ (x ++ 13 :: 10 :: (encL ls ++ 13 :: 10 :: r)) = (⟨.trailer, left, { ln with left := ln.left - (x.length + 2), spent := ln.spent + (x.length + 2), line := [], within := false, turn := false, whole := false, e := 0 }, all ++ [strL x], [], false, false, 0, out⟩, x.length + 2) := by
    rw [bStep_trailer rfl, whole_line hx1 hw ht he (by show (x.length : Int) + 2 ≤ ln.left; omega)]
    simp only [hli, List.nil_append]
    rw [if_neg (by decide), if_pos hx2]
    rfl
   rw [e0, show f + (x :: ls).length + 1 = (f + ls.length + 1) + 1 by rw [List.length_cons]; omega, bRun_one (by simp) rfl hst (drop_line _ _)]
   obtain ⟨S, h1, h2⟩ := trail_run m left out l ls { ln with left := ln.left - (x.length + 2), spent := ln.spent + (x.length + 2), line := [], within := false, turn := false, whole := false, e := 0 } (all ++ [strL x]) r f (fun y hy => hb y (by simp [hy])) rfl rfl rfl rfl (by show (lsum ls : Int) + 2 ≤ ln.left - (x.length + 2); omega) (by rw [List.append_assoc]; exact ha) (by rw [List.append_assoc]; exact hf)
   refine ⟨S, ?_, h2⟩
   rw [h1]
   exact Prod.ext rfl (by show _ + _ = _; omega)
theorem last_step (m : Lm) (left : Int) (out : List Pc) (hl : 3 ≤ m.line) (r : List UInt8) : bStep m (szS m left out) (48 :: 13 :: 10 :: r) = (⟨.trailer, left, ln0 m.head, [], [], false, false, 0, out⟩, 3) := by
 have e0 : (48 :: 13 :: 10 :: r : List UInt8) = [48] ++ 13 :: 10 :: r := rfl
 rw [e0, bStep_size rfl, whole_line (fun b hb => by simp at hb; subst hb; decide) rfl rfl rfl (by show ((1 : Nat) : Int) + 2 ≤ m.line; omega)]
 have e : (ln0 m.line).line ++ [48] = [48] := rfl
 have hc : chunkP [48] = (0, 0) := by kernel_rfl
 simp only [szS, e, hc]
 rw [if_neg (by decide), if_neg (by decide), if_pos trivial]
 rfl
end Go.Proofs.YtaojfiegnebbdaaGreatDoor
-- RbQ
namespace Go.Proofs.YtaojfiegnebbdaaGreatDoor
open Go.RowKit
theorem szO_size (out : List Pc) (n : Int) (t : ByteArray) : szO (out ++ [⟨2, n, t⟩]) = szO out ++ [n] := by rw [szO_append]; rfl
theorem bdO_data (out : List Pc) (n : Int) (x : List UInt8) : bdO (out ++ [⟨3, n, ⟨x.toArray⟩⟩]) = bdO out ++ x := by
 rw [bdO_append]
 unfold bdO
 simp
theorem data_take (m : Lm) (n : Int) (L : LnS) (out : List Pc) (y : List UInt8) (h : (y.length : Int) ≤ n) :
 bStep m ⟨.data, n, L, [], [], false, false, 0, out⟩ y = (⟨if n - y.length = 0 then .cr else .data, n - y.length, L, [], [], false, false, 0, out ++ [⟨3, 0, ⟨y.toArray⟩⟩]⟩, y.length) := by
 have hm : min (y.length : Int) n = y.length := by omega
 unfold bStep BdS.some BdS.rest BdS.put
 simp only [hm, Int.toNat_natCast]
 rw [List.take_of_length_le (nR _)]
 by_cases hz : n - (y.length : Int) = 0
 ·rw [if_pos hz, if_pos hz]
 ·rw [if_neg hz, if_neg hz]
theorem data_part (m : Lm) (n : Nat) (L : LnS) (out : List Pc) (y : List UInt8) (h : n < y.length) :
 bStep m ⟨.data, n, L, [], [], false, false, 0, out⟩ y = (⟨.cr, 0, L, [], [], false, false, 0, out ++ [⟨3, 0, ⟨(y.take n).toArray⟩⟩]⟩, n) := by
 have hm : min (y.length : Int) (n : Int) = n := by omega
 unfold bStep BdS.some BdS.rest BdS.put
 simp only [hm, Int.toNat_natCast, Int.sub_self]
 rfl
theorem ch_eq (m : Lm) : ∀ (N : Nat) (x : List UInt8) (left : Int) (out : List Pc) (f g : Nat), x.length ≤ N → x.length + 1 ≤ f → x.length + 1 ≤ g →
 RunEq (bRun m f (szS m left out) x) out (gotCh m g x).used (gotCh m g x).over (gotCh m g x).err (gotCh m g x).tr (gotCh m g x).sizes (gotCh m g x).body := by
 intro N
 induction N with
 | zero =>
   intro x left out f g hN hf hg
   have hx : x = [] := List.eq_nil_of_length_eq_zero (by omega)
   subst hx
   obtain ⟨g, rfl⟩ : ∃ g', g = g' + 1 := ⟨g - 1, by omega⟩
   rw [bRun_stop (Or.inl rfl), gotCh, if_pos rfl]
   exact ⟨rfl, rfl, rfl, rfl, by rw [List.append_nil]; rfl, by rw [List.append_nil]; rfl⟩
 | succ N ih =>
   intro x left out f g hN hf hg
   obtain ⟨g, rfl⟩ : ∃ g', g = g' + 1 := ⟨g - 1, by omega⟩
   obtain ⟨f, rfl⟩ : ∃ f', f = f' + 1 := ⟨f - 1, by omega⟩
   by_cases hx : x = []
   ·subst hx
    rw [bRun_stop (Or.inl rfl), gotCh, if_pos rfl]
    exact ⟨rfl, rfl, rfl, rfl, by rw [List.append_nil]; rfl, by rw [List.append_nil]; rfl⟩
   ·have hrd := ln_rd m.line x (ln0 m.line) 0 0 rfl rfl (by show m.line = m.line - ((0 : Nat) : Int); simp) rfl
    have hl0 : (ln0 m.line).line = [] := rfl
    have ht0 : (ln0 m.line).turn = false := rfl
    rw [hl0, ht0] at hrd
    rw [bRun_go hx rfl, bStep_size rfl, gotCh, if_neg hx]
    have hwh : ((szS m left out).whole x).2.2 = (lnFeed x (ln0 m.line)).1.whole := rfl
    have hwu : ((szS m left out).whole x).2.1 = (lnFeed x (ln0 m.line)).2 := rfl
    cases hq : (lnFeed x (ln0 m.line)).1.whole with
    | false =>
      rw [hq, if_neg (by decide)] at hrd
      obtain ⟨r1, r2, r3, r4⟩ := hrd
      rw [r1]
      rw [hwh, hq, if_pos rfl]
      simp only [hwu]
      rw [r2, r3, Nat.zero_add]
      by_cases hz : (lnFeed x (ln0 m.line)).1.e = 0
      ·have e1 : ((szS m left out).whole x).1 = { szS m left out with ln := (lnFeed x (ln0 m.line)).1 } := by
        unfold BdS.whole
        simp only
        exact if_pos hz
       rw [e1, bRun_stop (Or.inl (by rw [r4 hz, List.drop_length])), hz]
       exact ⟨rfl, rfl, rfl, rfl, by rw [List.append_nil]; rfl, by rw [List.append_nil]; rfl⟩
      ·have e1 : ((szS m left out).whole x).1 = ({ szS m left out with ln := (lnFeed x (ln0 m.line)).1 } : BdS).wrong (lnFeed x (ln0 m.line)).1.e := by
        unfold BdS.whole
        simp only
        exact if_neg hz
       rw [e1]
       exact (run_wrong m f { szS m left out with ln := (lnFeed x (ln0 m.line)).1 } _ hz rfl).more _
    | true =>
      rw [hq, if_pos rfl] at hrd
      obtain ⟨r1, r2, r3, r4, r5⟩ := hrd
      have q1 : ((szS m left out).whole x).1 = { szS m left out with ln := (lnFeed x (ln0 m.line)).1 } := (whole_eq (s := szS m left out) (x := x) rfl rfl (hwh.trans hq)).1
      rw [hwh, hq, if_neg (by decide), hwu, q1, r1]
      rw [Nat.zero_add] at r2
      simp only [r2]
      have hle := lnFeed_le x (ln0 m.line)
      rw [r2] at hle
      generalize hl : (lnFeed x (ln0 m.line)).1.line = l at r2 hle ⊢
      generalize (lnFeed x (ln0 m.line)).1 = Ln at *
      have hll : ({ szS m left out with ln := Ln } : BdS).ln.line = l := hl
      by_cases c2 : (chunkP l).2 = 0
      ·simp only [if_neg (show ¬ ((chunkP l).2 ≠ 0) from fun h => h c2), if_neg (show ¬ (¬ (chunkP l).2 = 0) from fun h => h c2)]
       by_cases c1 : (chunkP l).1 = 0
       ·simp only [if_pos c1]
        have ht := tr_eq m left out f (x.drop (l.length + 2)) (ln0 m.head) [] 0 0 (by rw [List.length_drop]; omega) rfl rfl rfl rfl (by show m.head = m.head - ((0 : Nat) : Int); simp)
        have e2 : ({ ({ szS m left out with ln := Ln } : BdS).read Ln with ln := ln0 m.head, md := .trailer } : BdS) = ⟨.trailer, left, ln0 m.head, [], [], false, false, 0, out⟩ := rfl
        rw [e2]
        unfold gotTr
        generalize trP m.fold m.fields (rdL m.head (x.drop (l.length + 2)) 0 [] false).1 0 [] = Z at ht ⊢
        cases Z with
        | none =>
          obtain ⟨u, h1, h2⟩ := ht
          have h3 := h2.more (l.length + 2)
          rw [Nat.zero_add] at h1
          rw [h1] at h3
          exact h3
        | some Z =>
          obtain ⟨r, at'⟩ := Z
          obtain ⟨u, h1, h2⟩ := ht
          have h3 := h2.more (l.length + 2)
          rw [Nat.zero_add] at h1
          rw [h1] at h3
          exact h3
       ·simp only [if_neg c1]
        have hp := chunkP_pos c1
        obtain ⟨n, hn⟩ : ∃ n : Nat, (chunkP l).1 = n := ⟨(chunkP l).1.toNat, by omega⟩
        have hn0 : 0 < n := by omega
        have e2 : ({ (({ szS m left out with ln := Ln } : BdS).read Ln).put ⟨2, (chunkP l).1, ⟨#[]⟩⟩ with left := (chunkP l).1, md := .data } : BdS) = ⟨.data, n, { Ln with line := [], whole := false }, [], [], false, false, 0, out ++ [⟨2, n, ⟨#[]⟩⟩]⟩ := by rw [hn]; rfl
        rw [e2, hn, Int.toNat_natCast]
        generalize hL : ({ Ln with line := [], whole := false } : LnS) = L
        have hyl : (x.drop (l.length + 2)).length = x.length - (l.length + 2) := List.length_drop
        generalize hy : x.drop (l.length + 2) = y at hyl ⊢
        by_cases hle2 : (y.length : Int) ≤ n
        ·rw [if_pos hle2]
         by_cases hy0 : y = []
         ·subst hy0
          rw [bRun_stop (Or.inl rfl)]
          have hz : x.length = l.length + 2 := by simp at hyl; omega
          exact ⟨hz.symm, rfl, rfl, rfl, szO_size _ _ _, by rw [List.append_nil]; exact bdO_one out ⟨2, n, ⟨#[]⟩⟩ (show (2 : Int) ≠ 3 by decide)⟩
         ·obtain ⟨f, rfl⟩ : ∃ f', f = f' + 1 := ⟨f - 1, by have := List.length_pos_iff.2 hy0; omega⟩
          have hx' : x.length = l.length + 2 + y.length := by have := List.length_pos_iff.2 hy0; omega
          rw [bRun_one hy0 rfl (data_take m n L _ y hle2) (List.drop_length), bRun_stop (Or.inl rfl), hx']
          exact ⟨rfl, rfl, rfl, rfl, by rw [szO_one _ ⟨3, 0, ⟨y.toArray⟩⟩ (show (3 : Int) ≠ 2 by decide)]; exact szO_size _ _ _, by rw [bdO_data, bdO_one out ⟨2, n, ⟨#[]⟩⟩ (show (2 : Int) ≠ 3 by decide)]⟩
        ·rw [if_neg hle2]
         have hlt : n < y.length := by omega
         have hy0 : y ≠ [] := by intro e; rw [e] at hlt; exact absurd hlt (Nat.not_lt_zero _)
         obtain ⟨f, rfl⟩ : ∃ f', f = f' + 1 := ⟨f - 1, by omega⟩
         have hdn : (y.drop n).length = y.length - n := List.length_drop
         rw [bRun_one hy0 rfl (data_part m n L _ y hlt) rfl]
         have hs2 : szO (out ++ [⟨2, (n : Int), ⟨#[]⟩⟩] ++ [⟨3, 0, ⟨(y.take n).toArray⟩⟩]) = szO out ++ [(n : Int)] := by rw [szO_one _ ⟨3, 0, ⟨(y.take n).toArray⟩⟩ (show (3 : Int) ≠ 2 by decide)]; exact szO_size _ _ _
         have hb2 : bdO (out ++ [⟨2, (n : Int), ⟨#[]⟩⟩] ++ [⟨3, 0, ⟨(y.take n).toArray⟩⟩]) = bdO out ++ y.take n := by rw [bdO_data, bdO_one out ⟨2, n, ⟨#[]⟩⟩ (show (2 : Int) ≠ 3 by decide)]
         generalize hb : y.take n = b at hs2 hb2 ⊢
         generalize hO : out ++ [⟨2, (n : Int), ⟨#[]⟩⟩] ++ [⟨3, 0, ⟨b.toArray⟩⟩] = O at hs2 hb2 ⊢
         generalize hz : y.drop n = z at hdn ⊢
         cases z with
         | nil => simp at hdn; omega
         | cons a z =>
           dsimp only
           obtain ⟨f, rfl⟩ : ∃ f', f = f' + 1 := ⟨f - 1, by simp at hdn; omega⟩
           by_cases ha : a = 13
           ·subst ha
            rw [bRun_one (S := ⟨.lf, 0, L, [], [], false, false, 0, O⟩) (k := 1) (y := z) (by simp) rfl rfl rfl]
            simp only [if_neg (show ¬ ((13 : UInt8) ≠ 13) from fun h => h rfl)]
            cases z with
            | nil =>
              rw [bRun_stop (Or.inl rfl)]
              exact ⟨by show l.length + 2 + (n + (1 + 0)) = l.length + 2 + n + 1; omega, rfl, rfl, rfl, hs2, hb2⟩
            | cons c z =>
              dsimp only
              obtain ⟨f, rfl⟩ : ∃ f', f = f' + 1 := ⟨f - 1, by simp at hdn; omega⟩
              by_cases hc : c = 10
              ·subst hc
               rw [bRun_one (S := szS m 0 O) (k := 1) (y := z) (by simp) rfl rfl rfl]
               simp only [if_neg (show ¬ ((10 : UInt8) ≠ 10) from fun h => h rfl)]
               have hzl : z.length + n + l.length + 4 = x.length := by simp at hdn; omega
               have h1 := ih z 0 O f g (by omega) (by omega) (by omega)
               refine ⟨?_, h1.o, h1.e, h1.t, ?_, ?_⟩
               ·show l.length + 2 + (n + (1 + (1 + (bRun m f (szS m 0 O) z).2))) = l.length + 2 + n + 2 + (gotCh m g z).used
                rw [h1.u]
                omega
               ·rw [h1.s, hs2, List.append_assoc]
                rfl
               ·rw [h1.b, hb2, List.append_assoc]
                rfl
              ·simp only [if_pos (show c ≠ 10 from hc)]
               have hst : bStep m ⟨.lf, 0, L, [], [], false, false, 0, O⟩ (c :: z) = ((⟨.lf, 0, L, [], [], false, false, 0, O⟩ : BdS).wrong 3, 0) := by
                have e : bStep m ⟨.lf, 0, L, [], [], false, false, 0, O⟩ (c :: z) = if (c :: z).head? = some 10 then ({ (⟨.lf, 0, L, [], [], false, false, 0, O⟩ : BdS) with ln := ln0 m.line, md := .size }, 1) else ((⟨.lf, 0, L, [], [], false, false, 0, O⟩ : BdS).wrong 3, 0) := rfl
                rw [e, if_neg (by simpa using hc)]
               rw [bRun_one (y := c :: z) (by simp) rfl hst rfl]
               have h1 := run_wrong m f (⟨.lf, 0, L, [], [], false, false, 0, O⟩ : BdS) (c :: z) (e := 3) (by decide) rfl
               refine ⟨?_, h1.o, h1.e, h1.t, ?_, ?_⟩
               ·show l.length + 2 + (n + (1 + (0 + (bRun m f _ (c :: z)).2))) = l.length + 2 + n + 1
                rw [h1.u]
                omega
               ·rw [h1.s, List.append_nil]; exact hs2
               ·rw [h1.b, List.append_nil]; exact hb2
           ·simp only [if_pos (show a ≠ 13 from ha)]
            have hst : bStep m ⟨.cr, 0, L, [], [], false, false, 0, O⟩ (a :: z) = ((⟨.cr, 0, L, [], [], false, false, 0, O⟩ : BdS).wrong 3, 0) := by
             have e : bStep m ⟨.cr, 0, L, [], [], false, false, 0, O⟩ (a :: z) = if (a :: z).head? = some 13 then ({ (⟨.cr, 0, L, [], [], false, false, 0, O⟩ : BdS) with md := .lf }, 1) else ((⟨.cr, 0, L, [], [], false, false, 0, O⟩ : BdS).wrong 3, 0) := rfl
             rw [e, if_neg (by simpa using ha)]
            rw [bRun_one (y := a :: z) (by simp) rfl hst rfl]
            have h1 := run_wrong m f (⟨.cr, 0, L, [], [], false, false, 0, O⟩ : BdS) (a :: z) (e := 3) (by decide) rfl
            refine ⟨?_, h1.o, h1.e, h1.t, ?_, ?_⟩
            ·show l.length + 2 + (n + (0 + (bRun m f _ (a :: z)).2)) = l.length + 2 + n
             rw [h1.u]
             omega
            ·rw [h1.s, List.append_nil]; exact hs2
            ·rw [h1.b, List.append_nil]; exact hb2
      ·simp only [if_pos (show (chunkP l).2 ≠ 0 from c2), if_pos c2]
       exact (run_wrong m f (({ szS m left out with ln := Ln } : BdS).read Ln) _ c2 rfl).more _
theorem open_eq (m : Lm) (k n : Int) (x : List UInt8) : RunEq (bFeed m (bNew m k n) x) [] (gotOpen m k n x).used (gotOpen m k n x).over (gotOpen m k n x).err (gotOpen m k n x).tr (gotOpen m k n x).sizes (gotOpen m k n x).body := by
 unfold bFeed
 obtain ⟨L, hL⟩ : ∃ L, L = x.length := ⟨_, rfl⟩
 unfold gotOpen
 by_cases h0 : n < 0 ∨ m.line < 0 ∨ 65536 < m.line ∨ m.head < 0 ∨ 65536 < m.head
 ·have e : bNew m k n = (⟨.nothing, n, ln0 m.line, [], [], false, false, 0, []⟩ : BdS).wrong 1 := by
   unfold bNew
   simp only
   rw [if_pos h0]
  rw [if_pos (by omega), e]
  exact run_wrong m _ (⟨.nothing, n, ln0 m.line, [], [], false, false, 0, []⟩ : BdS) x (e := 1) (by decide) rfl
 ·by_cases hk : k < 0 ∨ 3 < k
  ·have e : bNew m k n = (⟨.nothing, n, ln0 m.line, [], [], false, false, 0, []⟩ : BdS).wrong 1 := by
    unfold bNew
    simp only
    rw [if_neg h0, if_neg (by omega), if_neg (by omega), if_neg (by omega), if_neg (by omega)]
   rw [if_pos (by omega), e]
   exact run_wrong m _ (⟨.nothing, n, ln0 m.line, [], [], false, false, 0, []⟩ : BdS) x (e := 1) (by decide) rfl
  ·rw [if_neg (by omega)]
   by_cases k0 : k = 0
   ·have e : bNew m k n = (⟨.nothing, n, ln0 m.line, [], [], false, false, 0, []⟩ : BdS).ends := by
     unfold bNew
     simp only
     rw [if_neg h0, if_pos k0]
    rw [if_pos k0, e, bRun_stop (Or.inr rfl)]
    exact ⟨rfl, rfl, rfl, rfl, rfl, rfl⟩
   ·rw [if_neg k0]
    by_cases k1 : k = 1
    ·rw [if_pos k1]
     by_cases hn : n = 0
     ·have e : bNew m k n = (⟨.sized, n, ln0 m.line, [], [], false, false, 0, []⟩ : BdS).ends := by
       unfold bNew
       simp only
       rw [if_neg h0, if_neg k0, if_pos k1, if_pos hn]
      rw [e, bRun_stop (Or.inr rfl)]
      have hm : min (x.length : Int) n = 0 := by omega
      rw [hm, hn]
      exact ⟨rfl, rfl, rfl, rfl, rfl, rfl⟩
     ·have e : bNew m k n = ⟨.sized, n, ln0 m.line, [], [], false, false, 0, []⟩ := by
       unfold bNew
       simp only
       rw [if_neg h0, if_neg k0, if_pos k1, if_neg hn]
      rw [e]
      by_cases hx : x = []
      ·subst hx
       rw [bRun_stop (Or.inl rfl)]
       have hm : min ((([] : List UInt8).length : Nat) : Int) n = 0 := by simp; omega
       have hne : ((0 : Int) == n) = false := by rw [beq_eq_false_iff_ne]; omega
       rw [hm, hne]
       exact ⟨rfl, rfl, rfl, rfl, rfl, rfl⟩
      ·obtain ⟨q, hq⟩ : ∃ q : Nat, (q : Int) = min (x.length : Int) n := ⟨(min (x.length : Int) n).toNat, by omega⟩
       rw [bRun_go hx rfl]
       have hst : bStep m ⟨.sized, n, ln0 m.line, [], [], false, false, 0, []⟩ x = (if n - q = 0 then (⟨.sized, n - q, ln0 m.line, [], [], false, false, 0, [⟨3, 0, ⟨(x.take q).toArray⟩⟩]⟩ : BdS).ends else ⟨.sized, n - q, ln0 m.line, [], [], false, false, 0, [⟨3, 0, ⟨(x.take q).toArray⟩⟩]⟩, q) := by
        unfold bStep BdS.some BdS.rest BdS.put
        simp only [← hq, Int.toNat_natCast]
        rfl
       rw [hst, ← hq, Int.toNat_natCast]
       by_cases hz : n - (q : Int) = 0
       ·have hqn : ((q : Int) == n) = true := by rw [beq_iff_eq]; omega
        rw [hqn]
        simp only [if_pos hz]
        rw [bRun_stop (Or.inr rfl)]
        refine ⟨rfl, rfl, rfl, rfl, rfl, ?_⟩
        show bdO [⟨3, 0, ⟨(x.take q).toArray⟩⟩, ⟨4, 0, ⟨#[]⟩⟩] = [] ++ x.take q
        unfold bdO
        simp
       ·have hqn : ((q : Int) == n) = false := by rw [beq_eq_false_iff_ne]; omega
        rw [hqn]
        simp only [if_neg hz]
        have hql : q = x.length := by omega
        rw [bRun_stop (Or.inl (by rw [List.drop_eq_nil_iff]; omega))]
        refine ⟨rfl, rfl, rfl, rfl, rfl, ?_⟩
        show bdO [⟨3, 0, ⟨(x.take q).toArray⟩⟩] = [] ++ x.take q
        unfold bdO
        simp
    ·rw [if_neg k1]
     by_cases k3 : k = 3
     ·have e : bNew m k n = ⟨.rest, n, ln0 m.line, [], [], true, false, 0, []⟩ := by
       unfold bNew
       simp only
       rw [if_neg h0, if_neg k0, if_neg k1, if_neg (by omega), if_pos k3]
      rw [if_pos k3, e]
      by_cases hx : x = []
      ·subst hx
       rw [bRun_stop (Or.inl rfl)]
       exact ⟨rfl, rfl, rfl, rfl, rfl, rfl⟩
      ·rw [bRun_one (S := ⟨.rest, n, ln0 m.line, [], [], true, false, 0, [⟨3, 0, ⟨x.toArray⟩⟩]⟩) (k := x.length) (y := []) hx rfl rfl (List.drop_length), bRun_stop (Or.inl rfl)]
       refine ⟨rfl, rfl, rfl, rfl, rfl, ?_⟩
       show bdO [⟨3, 0, ⟨x.toArray⟩⟩] = [] ++ x
       unfold bdO
       simp
     ·have k2 : k = 2 := by omega
      have e : bNew m k n = szS m n [] := by
       unfold bNew
       simp only
       rw [if_neg h0, if_neg k0, if_neg k1, if_pos k2]
       rfl
      rw [if_neg k3, e]
      exact ch_eq m x.length x n [] (x.length + 1) (x.length + 1) (nR _) (nR _) (nR _)
theorem read_eq (m : Lm) (k n : Int) (closed : Bool) (x : List UInt8) (h : (bFeed m (bNew m k n) x).1.over = true → (bFeed m (bNew m k n) x).1.e = 0) (ht : (bFeed m (bNew m k n) x).1.opens = true → (bFeed m (bNew m k n) x).1.till = decide (k = 3)) :
 (if closed = true then bClose (bTold (bFeed m (bNew m k n) x).1) else bTold (bFeed m (bNew m k n) x).1).over = (gotRead m k n closed x).over ∧ (if closed = true then bClose (bTold (bFeed m (bNew m k n) x).1) else bTold (bFeed m (bNew m k n) x).1).e = (gotRead m k n closed x).err ∧ (if closed = true then bClose (bTold (bFeed m (bNew m k n) x).1) else bTold (bFeed m (bNew m k n) x).1).tr = (gotRead m k n closed x).tr := by
 have hr := open_eq m k n x
 generalize bFeed m (bNew m k n) x = R at h ht hr ⊢
 obtain ⟨S, u⟩ := R
 have h1 := hr.o
 have h2 := hr.e
 have h3 := hr.t
 simp only at h ht h1 h2 h3 ⊢
 unfold gotRead
 simp only
 cases closed with
 | false => simp only [true_or, if_true, Bool.false_eq_true, if_false]; exact ⟨h1, h2, h3⟩
 | true =>
   simp only [Bool.true_eq_false, false_or, if_true]
   by_cases ho : S.opens = true
   ·obtain ⟨o1, o2⟩ := opens_iff.1 ho
    rw [h1] at o1
    rw [h2] at o2
    rw [if_neg (by rw [o1, o2]; simp)]
    unfold bClose
    rw [if_pos (show (bTold S).opens = true from ho)]
    by_cases hk : k = 3
    ·rw [if_pos hk, if_pos (show (bTold S).till = true by show S.till = true; rw [ht ho]; exact dT hk)]
     exact ⟨rfl, h2, h3⟩
    ·rw [if_neg hk, if_neg (show ¬ (bTold S).till = true by show ¬ S.till = true; rw [ht ho]; simp [hk])]
     exact ⟨h1, rfl, h3⟩
   ·have hc : bClose (bTold S) = bTold S := by unfold bClose; rw [if_neg (show ¬ (bTold S).opens = true from ho)]
    rw [hc]
    have : (gotOpen m k n x).over = true ∨ (gotOpen m k n x).err ≠ 0 := by
     cases hov : S.over with
     | true => exact Or.inl (by rw [← h1]; exact hov)
     | false =>
       right
       rw [← h2]
       intro he
       exact ho (opens_iff.2 ⟨hov, he⟩)
    rw [if_pos this]
    exact ⟨h1, h2, h3⟩
end Go.Proofs.YtaojfiegnebbdaaGreatDoor
-- MsA
namespace Go.Proofs.YtaojfiegnebbdaaGreatDoor
open Go.RowKit
def msRow (h : Hd) (f : Value) (fk fl : Int) (body : ByteArray) (z t : Value) : Array Value := #[.string h.m, .string h.t, .int .i64 h.k, .int .i64 h.n, .string h.r, f, .int .i64 fk, .int .i64 fl, .string body, z, t]
theorem step_push_int {ops : Array Oper} {o : Oper} {a : Act} {K : Act → World → Prop} {Q : Exit → Act → World → Prop} {E : Prop} (hgd : o.guard = none) (s x : Operand)
 (ho : o.op = .call { callee := .builtin .append, args := #[s, x], argTypes := #[44, 44] }) {w : World} {B : Nat} {v : Value} {l : List Int} (hs : a.eval s = v) (hown : OwnI w B v l) (y : Int)
 (g : Nat) (hg : Blk w g #[.int .i64 y] 3) (hx : a.eval x = .slice (some ⟨g, 0, none⟩) 1 1) (hl : l.length ≤ 1000000) (hB : B ≤ w.heap.size)
 (h : ∀ g1 c w1, OwnI w1 B (.slice (some ⟨g1, 0, none⟩) (l.length + 1) c) (l ++ [y]) → Touch (fun j => v.ownBlock = some j) w w1 → (v.ownBlock = some g1 ∨ w.heap.size ≤ g1) → K (a.put o.dst (.slice (some ⟨g1, 0, none⟩) (l.length + 1) c)) w1) :
 if Region.wanted o (yielded ops a.tmps) = true then Oper.wp Tryz.prog o a w K Q else E := by
 obtain ⟨i0, hi, hz0, hz1, hz2⟩ := info_parts info_intc
 refine step_append_lies _ hgd s x 44 ho B 3 i0 _ 1 8 Tryz.underlying44 hi hz0 hz1 hz2 rfl (by decide) v l.length _ hs hown ⟨g, 0, none⟩ 1 1 [.int .i64 y] hx rfl ?c1 ?c2 (by decide) ?c3 ?c4 hB _ rfl ?_
 case c1 => exact World.news_of_block (cs := #[.int .i64 y]) (t := 3) (fr := (0, 0)) hg
 case c2 => simp [Value.oneCell']
 case c3 => unfold maxLen; omega
 case c4 => omega
 intro g1 c w1 hown1 hgr hat _
 refine h g1 c w1 ?_ ?_ ?_
 ·show w1.ownsRow B 3 1 _ (l ++ [y]).length _
  rw [List.length_append, List.map_append]
  exact hown1
 ·exact ⟨hgr.os, hgr.tape, hgr.output, hgr.size, fun k hk hne => hgr.block k hk (fun e => hne e.symm)⟩
 ·rcases hat with h1 | h1
  ·exact Or.inl h1
  ·right; omega
structure GmAt (w0 w : World) (G n0 : Nat) (z0 : Value) (h : Hd) (f : Value) (fk fl : Int) (body : ByteArray) (z t : Value) (sz : List Int) : Prop where
 k : Blk w G (msRow h f fk fl body z t) 46
 s : OwnI w n0 z sz
 t : Touch (fun j => j = G ∨ z0.ownBlock = some j) w0 w
 f : z.ownBlock = z0.ownBlock ∨ ∀ j, z.ownBlock = some j → w0.heap.size ≤ j
 b : n0 ≤ w0.heap.size
theorem GmAt.nG {w0 w : World} {G n0 : Nat} {z0 : Value} {h : Hd} {f : Value} {fk fl : Int} {body : ByteArray} {z t : Value} {sz : List Int} (a : GmAt w0 w G n0 z0 h f fk fl body z t sz) : z.ownBlock ≠ some G := fun e => by
 obtain ⟨_, cs, hb⟩ := own_ty a.s G e
 exact hb.ne a.k (by decide) rfl
theorem GmAt.call {w0 w w1 : World} {G n0 : Nat} {z0 : Value} {h : Hd} {f : Value} {fk fl : Int} {body : ByteArray} {z t : Value} {sz : List Int} (a : GmAt w0 w G n0 z0 h f fk fl body z t sz) (hb : Below w.heap.size w w1) : GmAt w0 w1 G n0 z0 h f fk fl body z t sz :=
 ⟨a.k.call hb, a.s.call hb, touch_into a.t (Touch.of_below (P := fun _ => False) hb) (fun _ _ h => h.elim), a.f, a.b⟩
theorem GmAt.body {w0 w : World} {G n0 : Nat} {z0 : Value} {h : Hd} {f : Value} {fk fl : Int} {body : ByteArray} {z t : Value} {sz : List Int} (a : GmAt w0 w G n0 z0 h f fk fl body z t sz) (b2 : ByteArray) : GmAt w0 (w.setCell ⟨G, 8, none⟩ (.string b2)) G n0 z0 h f fk fl b2 z t sz := by
 have T := (Touch.refl (fun j => j = G) w).setCell (p := ⟨G, 8, none⟩) rfl (.string b2)
 exact ⟨a.k.set 8 _, own_touch a.s T (fun j hj e => a.nG (e ▸ hj)), touch_into a.t T (fun _ _ e => Or.inl e), a.f, a.b⟩
theorem GmAt.size {w0 w w1 : World} {G n0 : Nat} {z0 : Value} {h : Hd} {f : Value} {fk fl : Int} {body : ByteArray} {z t : Value} {sz : List Int} (a : GmAt w0 w G n0 z0 h f fk fl body z t sz) {g1 c : Nat} {y : Int}
 (o : OwnI w1 n0 (.slice (some ⟨g1, 0, none⟩) (sz.length + 1) c) (sz ++ [y])) (t1 : Touch (fun j => z.ownBlock = some j) w w1) (hg : z.ownBlock = some g1 ∨ w.heap.size ≤ g1) :
 Blk w1 G (msRow h f fk fl body z t) 46 ∧ GmAt w0 (w1.setCell ⟨G, 9, none⟩ (.slice (some ⟨g1, 0, none⟩) (sz.length + 1) c)) G n0 z0 h f fk fl body (.slice (some ⟨g1, 0, none⟩) (sz.length + 1) c) t (sz ++ [y]) := by
 have k1 := a.k.touch t1 a.nG
 have t2 := (Touch.refl (fun j => j = G) w1).setCell (p := ⟨G, 9, none⟩) rfl (.slice (some ⟨g1, 0, none⟩) (sz.length + 1) c)
 have hgG : g1 ≠ G := fun e => by
  rcases hg with hg | hg
  ·exact a.nG (e ▸ hg)
  ·have := a.k.lt; omega
 have tt : Touch (fun j => j = G ∨ z0.ownBlock = some j) w0 w1 := touch_into a.t t1 (fun i hi e => by
  rcases a.f with hf | hf
  ·exact Or.inr (hf ▸ e)
  ·have := hf i e; omega)
 refine ⟨k1, ⟨k1.set 9 _, own_touch o t2 (fun j hj e => hgG (by cases hj; exact e)), touch_into tt t2 (fun _ _ e => Or.inl e), ?_, a.b⟩⟩
 rcases hg with hg | hg
 ·rcases a.f with hf | hf
  ·left; rw [← hf, hg]; rfl
  ·right; intro j hj; cases hj; exact hf g1 hg
 ·right; intro j hj; cases hj; exact nT a.t.size hg
theorem strL_bdO_snoc (body : ByteArray) (l : List Pc) (p : Pc) (hp : p.k = 3) : body ++ strL (bdO (l ++ [p])) = body ++ strL (bdO l) ++ p.t := by
 apply ext_list
 rw [bdO_append]
 have e : bdO [p] = p.t.data.toList := by unfold bdO; simp [hp]
 rw [e]
 unfold strL
 simp
theorem szO_snoc (l : List Pc) (p : Pc) : szO (l ++ [p]) = szO l ++ (if p.k = 2 then [p.n] else []) := by
 rw [szO_append]
 unfold szO
 by_cases h : p.k = 2
 ·simp [h]
 ·simp [h]
theorem bdO_other (l : List Pc) (p : Pc) (h : p.k ≠ 3) : bdO (l ++ [p]) = bdO l := bdO_one l p h
theorem bd_size : ∀ l : List Pc, (bdO l).length ≤ totT l
 | [] => nR _
 | p :: l => by
   have ih := bd_size l
   have e : totT (p :: l) = p.t.size + totT l := rfl
   have e2 : bdO (p :: l) = (if p.k = 3 then p.t.data.toList else []) ++ bdO l := rfl
   rw [e, e2, List.length_append]
   split
   ·rw [← Lib.size_eq]; omega
   ·simp; omega
theorem mgather_any {w : World} {G n0 np : Nat} {z0 v : Value} {h : Hd} {f t : Value} {fk fl : Int} {body : ByteArray} {sz : List Int} {l : List Pc} (hk : Blk w G (msRow h f fk fl body z0 t) 46) (hz : OwnI w n0 z0 sz) (hp : OwnPc w np v l) (hb : n0 ≤ w.heap.size) (hl : sz.length + l.length ≤ 1000000) (ht : body.size + totT l ≤ 1000000000) :
 Calls Tryz.prog 95 #[.pointer (some ⟨G, 0, none⟩), v] w fun e w' => e = .returned (.tuple #[]) ∧ ∃ z, GmAt w w' G n0 z0 h f fk fl (body ++ strL (bdO l)) z t (sz ++ szO l) := by
 have hs : GmAt w w G n0 z0 h f fk fl (body ++ strL (bdO (l.take 0))) z0 t (sz ++ szO (l.take 0)) := by
  have e1 : body ++ strL (bdO (l.take 0)) = body := by apply ext_list; show (body ++ strL []).data.toList = _; unfold strL; simp
  have e2 : sz ++ szO (l.take 0) = sz := List.append_nil _
  rw [e1, e2]
  exact ⟨hk, hz, Touch.refl _ _, Or.inl rfl, hb⟩
 have HS := lH hs
 have HP := lH hp
 have HL := lH hl
 have HT := lH ht
 obtain ⟨p, c, hv⟩ : ∃ p c, v = .slice p l.length c := by
  obtain ⟨p, c, hv, _⟩ := Pcs.of_own hp
  exact ⟨p, c, hv⟩
 have HV := lH hv
 clear hk hz hb hl ht hp hs
 subst hv
 go_enter Tryz.func95, Tryz.ntmps95
 go_wp2_with fail
 go_loopw [8] (fun u8 wr => ∃ (k : Nat) (z : Value), k ≤ l.length ∧ u8 = .int .i64 k ∧ GmAt w wr G n0 z0 h f fk fl (body ++ strL (bdO (l.take k))) z t (sz ++ szO (l.take k)) ∧ OwnPc wr np (.slice p l.length c) l) (fun u8 _ => l.length - (intOf u8).toNat)
 case atStart => exact ⟨0, z0, Nat.zero_le _, rfl, HS.out, HP.out⟩
 case round =>
  obtain ⟨k, z, hkl, rfl, hat, hpi⟩ := hrel
  have HA := lH hat
  have HPr := lH hpi
  clear hat hpi
  by_cases hlt : k < l.length
  ·have hk1 : decide ((k : Int) < (l.length : Int)) = true := dT (by omega)
   have hk2 : decide (k < l.length) = true := dT hlt
   obtain ⟨pp, cc, hpv, hcells⟩ := Pcs.of_own HPr.out
   injection hpv with hp1 _ hp3'
   subst hp1 hp3'
   obtain ⟨b, off, rfl, q0, q1, q2⟩ := hcells k hlt
   obtain ⟨x, hx⟩ : ∃ x, x = l[k] := ⟨_, rfl⟩
   rw [← hx] at q0 q1 q2
   obtain ⟨pk, pn, pt⟩ := x
   have HLT := lH hlt
   have HX := lH (show l[k] = ⟨pk, pn, pt⟩ from hx.symm)
   have hkb : k ≤ 999999 := by have := HL.out; omega
   have hcc : (body ++ strL (bdO (l.take k))).size + pt.size ≤ 1000000000 := by
    have h1 := bd_size (l.take k)
    have h2 := totT_drop l k _ HLT.out HX.out
    have h3 : totT l = totT (l.take k) + totT (l.drop k) := by
     rw [← List.take_append_drop k l]
     unfold totT
     rw [List.map_append, List.sum_append]
     simp
    have h4 := HT.out
    rw [ByteArray.size_append, strL_size]
    simp only at h2
    omega
   have hszl : (sz ++ szO (l.take k)).length ≤ 999999 := by
    have h1 : (szO (l.take k)).length ≤ k := nT (List.length_filterMap_le _ _) (by rw [List.length_take]; omega)
    have := HL.out
    rw [List.length_append]
    omega
   have HSZ := lH hszl
   clear hx hlt hkl hcells hszl
   simp only at q0 q1 q2
   rw [show off + 3 * k = off + k * 3 by omega] at q0 q1 q2
   go_upto_region 3 with fail
   refine wp_here 3 ?_
   intro W hW
   have hAW : GmAt w W G n0 z0 h f fk fl (body ++ strL (bdO (l.take k))) z t (sz ++ szO (l.take k)) := by rw [hW]; exact HA.out.call ((Below.refl _ _).alloc (nR _) _)
   have hPW : Blk W wr.heap.size #[.int .i64 pk, .int .i64 pn, .string pt] 77 := by rw [hW]; exact Blk.new wr _ _
   have hPI : OwnPc W np (.slice (some ⟨b, off, none⟩) l.length c) l := by rw [hW]; exact own_touch HPr.out (Touch.of_below (P := fun _ => False) ((Below.refl _ _).alloc (nR _) _)) (fun _ _ => id)
   have HAW := lH hAW
   have HPW := lH hPW
   have HPI := lH hPI
   clear hW q0 q1 q2 hAW hPW hPI HA HPr
   generalize wr.heap.size = P at HPW ⊢
   obtain ⟨v, hv⟩ : ∃ v, v = Value.slice (some ⟨b, off, none⟩) l.length c := ⟨_, rfl⟩
   have HVV := lH hv
   rw [← hv] at HPI
   clear hv
   have x0 : W.cell? ⟨P, 0, none⟩ = some (.int .i64 pk) := HPW.out.cell 0
   have x1 : W.cell? ⟨P, 1, none⟩ = some (.int .i64 pn) := HPW.out.cell 1
   have x2 : W.cell? ⟨P, 2, none⟩ = some (.string pt) := HPW.out.cell 2
   by_cases hpk : pk = 2
   ·have e2 : (pk == 2) = true := by simp [hpk]
    have e3 : (pk == 3) = false := by simp [hpk]
    generalize hSS : sz ++ szO (l.take k) = SS at HAW HSZ
    have HSS := lH hSS
    clear hSS
    go_upto_region 5 with fail
    refine wp_region_at (S := fun W => Blk W P #[.int .i64 pk, .int .i64 pn, .string pt] 77) (by kernel_rfl) ?_
    intro V0 hV0
    have h0 : Blk V0 P #[.int .i64 pk, .int .i64 pn, .string pt] 77 := hV0 ▸ HPW.out.drew
    have HA0 := lH (show GmAt w V0 G n0 z0 h f fk fl (body ++ strL (bdO (l.take k))) z t SS from hV0 ▸ HAW.out.call (Below.refl _ _).drew)
    have HP0 := lH (show OwnPc V0 np v l from hV0 ▸ (own_touch HPI.out (Touch.of_below (P := fun _ => False) (Below.refl _ _).drew) (fun _ _ => id)))
    clear hV0 x0 x1 x2
    refine wpAnyH_take (i := 0) (v := .pointer (some ⟨G, 0, none⟩)) rfl (by kernel_rfl) (by kernel_rfl) (by kernel_rfl) (fun _ _ _ h => h) (Or.inl ⟨by kernel_rfl, ?hyh12⟩) h0 ?resth12
    case hyh12 =>
     intro v hv
     clear hv
     go_simp
    (try simp only [Act.put, lS, lZ, lC])
    refine wpAnyH_take (i := 1) (v := .pointer (some ⟨G, 0, none⟩)) rfl (by kernel_rfl) (by kernel_rfl) (by kernel_rfl) (fun _ _ _ h => h) (Or.inl ⟨by kernel_rfl, ?hyh13⟩) h0 ?resth13
    case hyh13 =>
     intro v hv
     clear hv
     go_simp
    (try simp only [Act.put, lS, lZ, lC])
    refine wpAnyH_take (i := 2) (v := .pointer (some ⟨G, 0, none⟩)) rfl (by kernel_rfl) (by kernel_rfl) (by kernel_rfl) (fun _ _ _ h => h) (Or.inl ⟨by kernel_rfl, ?hyh14⟩) h0 ?resth14
    case hyh14 =>
     intro v hv
     clear hv
     go_simp
    (try simp only [Act.put, lS, lZ, lC])
    refine wpAnyH_take (i := 3) (v := .pointer (some ⟨G, 9, none⟩)) rfl (by kernel_rfl) (by kernel_rfl) (by kernel_rfl) (fun _ _ _ h => h) (Or.inl ⟨by kernel_rfl, ?hyh15⟩) h0 ?resth15
    case hyh15 =>
     intro v hv
     clear hv
     go_simp
    (try simp only [Act.put, lS, lZ, lC])
    refine wpAnyH_take (i := 5) (v := .pointer (some ⟨P, 1, none⟩)) rfl (by kernel_rfl) (by kernel_rfl) (by kernel_rfl) (fun _ _ _ h => h) (Or.inl ⟨by kernel_rfl, ?hyh16⟩) h0 ?resth16
    case hyh16 =>
     intro v hv
     clear hv
     go_simp
    (try simp only [Act.put, lS, lZ, lC])
    refine wpAnyH_take (i := 6) (v := .int .i64 pn) rfl (by kernel_rfl) (by kernel_rfl) (by kernel_rfl) (fun _ _ _ h => h) (Or.inl ⟨by kernel_rfl, ?hyh17⟩) h0 ?resth17
    case hyh17 =>
     intro v hv
     have q := hv.cell 1
     simp at q
     clear hv
     go_simp
    (try simp only [Act.put, lS, lZ, lC])
    refine wpAnyH_ready (rs := [4, 7]) (by kernel_rfl) (by simp) ?_
    refine AllReadyH.cons rfl (fun K hK => ?_) (AllReadyH.cons rfl (fun K hK => ?_) AllReadyH.nil)
    ·have q : V0.cell? ⟨G, 9, none⟩ = some z := HA0.out.k.cell 9
     go_simp
     clear q
     refine hK _ _ h0 (fun _ => ?_)
     clear hK K
     (try simp only [Act.put, lS, lZ, lC])
     refine wpAnyH_ready (rs := [7]) (by kernel_rfl) (by simp) ?_
     refine AllReadyH.cons rfl (fun K hK => ?_) AllReadyH.nil
     go_simp
     have h1 : Blk (V0.alloc (.cells #[.int .i64 pn] 3)) P #[.int .i64 pk, .int .i64 pn, .string pt] 77 := h0.alloc _
     have HN := lH (Blk.new V0 #[.int .i64 pn] 3)
     have HA1 := lH (HA0.out.call ((Below.refl V0.heap.size V0).alloc (nR _) (.cells #[.int .i64 pn] 3)))
     have HP1 := lH (own_touch HP0.out (Touch.of_below (P := fun _ => False) ((Below.refl V0.heap.size V0).alloc (nR _) (.cells #[.int .i64 pn] 3))) (fun _ _ => id))
     refine hK _ _ h1 (fun _ => ?_)
     clear hK K h0
     (try simp only [Act.put, lS, lZ, lC])
     generalize hb : V0.heap.size = b1 at HN ⊢
     generalize V0.alloc (.cells #[.int .i64 pn] 3) = V1 at HN HA1 HP1 h1 ⊢
     clear hb HA0 HP0
     refine wpAnyH_ready (rs := [8]) (by kernel_rfl) (by simp) ?_
     refine AllReadyH.cons rfl (fun K hK => ?_) AllReadyH.nil
     refine step_push_int rfl _ _ rfl rfl HA1.out.s pn b1 HN.out rfl (by have := HSZ.out; omega) (nT HA1.out.b HA1.out.t.size) ?_
     intro g1 c1 V2 ho2 ht2 hg2
     have hq := HA1.out.size ho2 ht2 hg2
     have K2 := lH hq.1
     have A2 := lH hq.2
     have P2 := lH (own_touch HP1.out ht2 (fun j hj e => by obtain ⟨_, cs, hb⟩ := own_ty HP1.out j hj; obtain ⟨_, cs', hb'⟩ := own_ty HA1.out.s j e; exact hb.ne hb' (by decide) rfl))
     have h2 : Blk V2 P #[.int .i64 pk, .int .i64 pn, .string pt] 77 := h1.touch ht2 (fun e => by obtain ⟨_, cs', hb'⟩ := own_ty HA1.out.s P e; exact h1.ne hb' (by decide) rfl)
     clear ho2 ht2 hg2 hq h1 HN HA1 HP1
     refine hK _ _ h2 (fun _ => ?_)
     clear hK K
     (try simp only [Act.put, lS, lZ, lC])
     refine wpAnyH_take (i := 9) (v := .pointer (some ⟨G, 0, none⟩)) rfl (by kernel_rfl) (by kernel_rfl) (by kernel_rfl) (fun _ _ _ h => h) (Or.inl ⟨by kernel_rfl, ?hyh18⟩) h2 ?resth18
     case hyh18 =>
      intro v hv
      clear hv
      go_simp
     (try simp only [Act.put, lS, lZ, lC])
     refine wpAnyH_take (i := 10) (v := .pointer (some ⟨G, 9, none⟩)) rfl (by kernel_rfl) (by kernel_rfl) (by kernel_rfl) (fun _ _ _ h => h) (Or.inl ⟨by kernel_rfl, ?hyh19⟩) h2 ?resth19
     case hyh19 =>
      intro v hv
      clear hv
      go_simp
     (try simp only [Act.put, lS, lZ, lC])
     refine wpAnyH_ready (rs := [11]) (by kernel_rfl) (by simp) ?_
     refine AllReadyH.cons rfl (fun K hK => ?_) AllReadyH.nil
     have zz : V2.frozen? ⟨G, 9, none⟩ = false := K2.out.froz 9
     have yy : V2.cell? ⟨G, 9, none⟩ = some z := K2.out.cell 9
     go_simp
     clear zz yy
     have P3 := lH (own_touch P2.out ((Touch.refl (fun j => j = G) V2).setCell (p := ⟨G, 9, none⟩) rfl (.slice (some ⟨g1, 0, none⟩) (SS.length + 1) c1)) (fun j hj e => by obtain ⟨_, cs, hb⟩ := own_ty P2.out j hj; exact hb.ne K2.out (by decide) e))
     have h3 : Blk (V2.setCell ⟨G, 9, none⟩ (.slice (some ⟨g1, 0, none⟩) (SS.length + 1) c1)) P #[.int .i64 pk, .int .i64 pn, .string pt] 77 := h2.far (p := ⟨G, 9, none⟩) (h2.ne K2.out (by decide)) _
     refine hK _ _ h3 (fun _ => ?_)
     clear hK K h2 h3
     (try simp only [Act.put, lS, lZ, lC])
     refine wpAnyH_done (by kernel_rfl) ?_ _
     go_wp2_with fail
     go_roundw
     case rel =>
      refine ⟨k + 1, .slice (some ⟨g1, 0, none⟩) (SS.length + 1) c1, HLT.out, rfl, ?_, HVV.out ▸ P3.out⟩
      have e : l.take (k + 1) = l.take k ++ [⟨pk, pn, pt⟩] := by rw [List.take_add_one, List.getElem?_eq_getElem HLT.out]; exact congrArg (fun q => l.take k ++ [q]) HX.out
      rw [e, szO_snoc]
      rw [bdO_other _ _ (show pk ≠ 3 by rw [hpk]; decide)]
      rw [if_pos (show (⟨pk, pn, pt⟩ : Pc).k = 2 from hpk), ← List.append_assoc, HSS.out]
      exact A2.out
     case measure =>
      have := HLT.out
      simp [intOf]
      omega
    ·go_simp
     have h1 : Blk (V0.alloc (.cells #[.int .i64 pn] 3)) P #[.int .i64 pk, .int .i64 pn, .string pt] 77 := h0.alloc _
     have HN := lH (Blk.new V0 #[.int .i64 pn] 3)
     have HA1 := lH (HA0.out.call ((Below.refl V0.heap.size V0).alloc (nR _) (.cells #[.int .i64 pn] 3)))
     have HP1 := lH (own_touch HP0.out (Touch.of_below (P := fun _ => False) ((Below.refl V0.heap.size V0).alloc (nR _) (.cells #[.int .i64 pn] 3))) (fun _ _ => id))
     refine hK _ _ h1 (fun _ => ?_)
     clear hK K h0
     (try simp only [Act.put, lS, lZ, lC])
     refine wpAnyH_ready (rs := [4]) (by kernel_rfl) (by simp) ?_
     refine AllReadyH.cons rfl (fun K hK => ?_) AllReadyH.nil
     have q : (V0.alloc (.cells #[.int .i64 pn] 3)).cell? ⟨G, 9, none⟩ = some z := HA1.out.k.cell 9
     go_simp
     clear q
     refine hK _ _ h1 (fun _ => ?_)
     clear hK K
     (try simp only [Act.put, lS, lZ, lC])
     generalize hb : V0.heap.size = b1 at HN ⊢
     generalize V0.alloc (.cells #[.int .i64 pn] 3) = V1 at HN HA1 HP1 h1 ⊢
     clear hb HA0 HP0
     refine wpAnyH_ready (rs := [8]) (by kernel_rfl) (by simp) ?_
     refine AllReadyH.cons rfl (fun K hK => ?_) AllReadyH.nil
     refine step_push_int rfl _ _ rfl rfl HA1.out.s pn b1 HN.out rfl (by have := HSZ.out; omega) (nT HA1.out.b HA1.out.t.size) ?_
     intro g1 c1 V2 ho2 ht2 hg2
     have hq := HA1.out.size ho2 ht2 hg2
     have K2 := lH hq.1
     have A2 := lH hq.2
     have P2 := lH (own_touch HP1.out ht2 (fun j hj e => by obtain ⟨_, cs, hb⟩ := own_ty HP1.out j hj; obtain ⟨_, cs', hb'⟩ := own_ty HA1.out.s j e; exact hb.ne hb' (by decide) rfl))
     have h2 : Blk V2 P #[.int .i64 pk, .int .i64 pn, .string pt] 77 := h1.touch ht2 (fun e => by obtain ⟨_, cs', hb'⟩ := own_ty HA1.out.s P e; exact h1.ne hb' (by decide) rfl)
     clear ho2 ht2 hg2 hq h1 HN HA1 HP1
     refine hK _ _ h2 (fun _ => ?_)
     clear hK K
     (try simp only [Act.put, lS, lZ, lC])
     refine wpAnyH_take (i := 9) (v := .pointer (some ⟨G, 0, none⟩)) rfl (by kernel_rfl) (by kernel_rfl) (by kernel_rfl) (fun _ _ _ h => h) (Or.inl ⟨by kernel_rfl, ?hyh20⟩) h2 ?resth20
     case hyh20 =>
      intro v hv
      clear hv
      go_simp
     (try simp only [Act.put, lS, lZ, lC])
     refine wpAnyH_take (i := 10) (v := .pointer (some ⟨G, 9, none⟩)) rfl (by kernel_rfl) (by kernel_rfl) (by kernel_rfl) (fun _ _ _ h => h) (Or.inl ⟨by kernel_rfl, ?hyh21⟩) h2 ?resth21
     case hyh21 =>
      intro v hv
      clear hv
      go_simp
     (try simp only [Act.put, lS, lZ, lC])
     refine wpAnyH_ready (rs := [11]) (by kernel_rfl) (by simp) ?_
     refine AllReadyH.cons rfl (fun K hK => ?_) AllReadyH.nil
     have zz : V2.frozen? ⟨G, 9, none⟩ = false := K2.out.froz 9
     have yy : V2.cell? ⟨G, 9, none⟩ = some z := K2.out.cell 9
     go_simp
     clear zz yy
     have P3 := lH (own_touch P2.out ((Touch.refl (fun j => j = G) V2).setCell (p := ⟨G, 9, none⟩) rfl (.slice (some ⟨g1, 0, none⟩) (SS.length + 1) c1)) (fun j hj e => by obtain ⟨_, cs, hb⟩ := own_ty P2.out j hj; exact hb.ne K2.out (by decide) e))
     have h3 : Blk (V2.setCell ⟨G, 9, none⟩ (.slice (some ⟨g1, 0, none⟩) (SS.length + 1) c1)) P #[.int .i64 pk, .int .i64 pn, .string pt] 77 := h2.far (p := ⟨G, 9, none⟩) (h2.ne K2.out (by decide)) _
     refine hK _ _ h3 (fun _ => ?_)
     clear hK K h2 h3
     (try simp only [Act.put, lS, lZ, lC])
     refine wpAnyH_done (by kernel_rfl) ?_ _
     go_wp2_with fail
     go_roundw
     case rel =>
      refine ⟨k + 1, .slice (some ⟨g1, 0, none⟩) (SS.length + 1) c1, HLT.out, rfl, ?_, HVV.out ▸ P3.out⟩
      have e : l.take (k + 1) = l.take k ++ [⟨pk, pn, pt⟩] := by rw [List.take_add_one, List.getElem?_eq_getElem HLT.out]; exact congrArg (fun q => l.take k ++ [q]) HX.out
      rw [e, szO_snoc]
      rw [bdO_other _ _ (show pk ≠ 3 by rw [hpk]; decide)]
      rw [if_pos (show (⟨pk, pn, pt⟩ : Pc).k = 2 from hpk), ← List.append_assoc, HSS.out]
      exact A2.out
     case measure =>
      have := HLT.out
      simp [intOf]
      omega
   ·have e2 : (pk == 2) = false := by simp [hpk]
    by_cases hp3 : pk = 3
    ·have e3 : (pk == 3) = true := by simp [hp3]
     have yb : W.cell? ⟨G, 8, none⟩ = some (.string (body ++ strL (bdO (l.take k)))) := HAW.out.k.cell 8
     have zb : W.frozen? ⟨G, 8, none⟩ = false := HAW.out.k.froz 8
     generalize hBB : body ++ strL (bdO (l.take k)) = BB at HAW yb hcc
     have HBB := lH hBB
     clear hBB
     have HN := lH (fun n => (HAW.out.call (bdrew W n)).body (BB ++ pt))
     have HPN := lH (fun n => own_touch (own_touch HPI.out (Touch.of_below (P := fun _ => False) (bdrew W n)) (fun _ _ => id)) ((Touch.refl (fun j => j = G) (W.drewN n)).setCell (p := ⟨G, 8, none⟩) rfl (.string (BB ++ pt))) (fun j hj e => by obtain ⟨_, cs, hb⟩ := own_ty HPI.out j hj; exact hb.ne HAW.out.k (by decide) e))
     go_upto_region 7 with fail
     refine wp_region_drew_tail 7 (by kernel_rfl) (by kernel_rfl) ?_
     simp only [List.take_succ_cons, List.take_zero, List.drop_succ_cons, List.drop_zero]
     repeat go_big_quiet_step (fail)
     refine wpQuiet_nil ?_
     rintro _ ⟨nq, rfl⟩
     go_wp2_with fail
     go_roundw
     case rel =>
      refine ⟨k + 1, z, HLT.out, rfl, ?_, HVV.out ▸ HPN.out nq⟩
      have e : l.take (k + 1) = l.take k ++ [⟨pk, pn, pt⟩] := by rw [List.take_add_one, List.getElem?_eq_getElem HLT.out]; exact congrArg (fun q => l.take k ++ [q]) HX.out
      rw [e, szO_snoc]
      rw [strL_bdO_snoc body _ _ (show (⟨pk, pn, pt⟩ : Pc).k = 3 from hp3), HBB.out]
      rw [if_neg (show ¬ (⟨pk, pn, pt⟩ : Pc).k = 2 from hpk), List.append_nil]
      exact HN.out nq
     case measure =>
      have := HLT.out
      simp [intOf]
      omega
    ·have e3 : (pk == 3) = false := by simp [hp3]
     go_wp2_with fail
     go_roundw
     case rel =>
      refine ⟨k + 1, z, HLT.out, rfl, ?_, HVV.out ▸ HPI.out⟩
      have e : l.take (k + 1) = l.take k ++ [⟨pk, pn, pt⟩] := by rw [List.take_add_one, List.getElem?_eq_getElem HLT.out]; exact congrArg (fun q => l.take k ++ [q]) HX.out
      rw [e, szO_snoc]
      rw [bdO_other _ _ (show pk ≠ 3 from hp3)]
      rw [if_neg (show ¬ (⟨pk, pn, pt⟩ : Pc).k = 2 from hpk), List.append_nil]
      exact HAW.out
     case measure =>
      have := HLT.out
      simp [intOf]
      omega
  ·have hk1 : decide ((k : Int) < (l.length : Int)) = false := dF (by omega)
   have hk2 : decide (k < l.length) = false := dF hlt
   have hke : k = l.length := by omega
   have HE : Hid (GmAt w wr G n0 z0 h f fk fl (body ++ strL (bdO l)) z t (sz ++ szO l)) := by
    have := HA.out
    rw [hke, List.take_length] at this
    exact this
   clear hke
   go_wp2_with fail
   go_end0
   exact ⟨rfl, z, HE.out⟩
end Go.Proofs.YtaojfiegnebbdaaGreatDoor
-- MsP
namespace Go.Proofs.YtaojfiegnebbdaaGreatDoor
open Go.RowKit
structure MsgP where
 hd : Hd
 fk : Int
 fl : Int
 body : List UInt8
 sizes : List Int
 tr : List Fd
inductive OutP where
 | whole (M : MsgP) (used : Nat)
 | tail (kind err : Int)
def frmP (kind : Int) (h : Hd) (method : ByteArray) : Int × Int × Int :=
 if kind = 1 then reqP h.fs h.k
 else if (respP h.fs h.k h.n method).2.2 = 0 ∧ h.n = 101 then (0, 0, 12) else respP h.fs h.k h.n method
def bodyP (m : Lm) (closed : Bool) (kind : Int) (method : ByteArray) (h : Hd) (used : Nat) (x : List UInt8) : OutP :=
 if (frmP kind h method).2.2 ≠ 0 then .tail 2 (frmP kind h method).2.2
 else if (gotRead m (frmP kind h method).1 (frmP kind h method).2.1 closed x).err ≠ 0 then .tail 2 (gotRead m (frmP kind h method).1 (frmP kind h method).2.1 closed x).err
 else if (gotRead m (frmP kind h method).1 (frmP kind h method).2.1 closed x).over = false then .tail 1 0
 else .whole ⟨h, (frmP kind h method).1, (frmP kind h method).2.1, (gotRead m (frmP kind h method).1 (frmP kind h method).2.1 closed x).body, (gotRead m (frmP kind h method).1 (frmP kind h method).2.1 closed x).sizes, (gotRead m (frmP kind h method).1 (frmP kind h method).2.1 closed x).tr⟩ (used + (gotRead m (frmP kind h method).1 (frmP kind h method).2.1 closed x).used)
def oneP (m : Lm) (closed : Bool) (kind : Int) (method : ByteArray) (x : List UInt8) : OutP :=
 if m.head < 0 ∨ 65536 < m.head then .tail 2 1
 else if (gotP kind m.fields m.fold m.head x).e ≠ 0 then .tail 2 (gotP kind m.fields m.fold m.head x).e
 else if (gotP kind m.fields m.fold m.head x).fin = false then
  (if (gotP kind m.fields m.fold m.head x).begun = false then .tail 0 0 else if closed = true then .tail 2 19 else .tail 1 0)
 else bodyP m closed kind method (gotP kind m.fields m.fold m.head x).hd (gotP kind m.fields m.fold m.head x).used.toNat (x.drop (gotP kind m.fields m.fold m.head x).used.toNat)
structure ParGot (P : PaS × Nat) (G : GotS) : Prop where
 e : P.1.e = G.e
 f : P.1.fin = G.fin
 u : (P.2 : Int) = G.used
 b : (!P.1.all.isEmpty || P.1.fin || P.1.ln.within) = G.begun
 h : G.fin = true → P.1.hd = G.hd
theorem par_got (kind fields fold a : Int) (x : List UInt8) : ParGot (pRun kind fields fold x (pa0 a)) (gotP kind fields fold a x) := by
 have h := pRun_rd kind fields fold a x 0 0 0 [] false [] hd0 rfl
 have e0 : (⟨⟨a - ((0 : Nat) : Int), 0, [], !([] : List UInt8).isEmpty || false, false, false, 0⟩, [], false, hd0, 0⟩ : PaS) = pa0 a := by
  unfold pa0 ln0
  simp
 rw [e0] at h
 unfold gotP
 generalize pRun kind fields fold x (pa0 a) = P at h ⊢
 generalize (rdL a x 0 [] false).2 = q at h ⊢
 generalize scanP kind fields fold (rdL a x 0 [] false).1 0 [] = z at h ⊢
 obtain ⟨z1, z2⟩ := z
 cases z1 with
 | none =>
   obtain ⟨h1, h2, h3, h4, h5, h6⟩ := h
   refine ⟨h3, h1, ?_, ?_, fun e => (by cases e)⟩
   ·show (P.2 : Int) = (q.2.1 : Int)
    rw [← h5]
    simp
   ·show _ = (q.1 || !z2.isEmpty)
    rw [h1, h2, ← h6]
    cases P.1.ln.within <;> cases z2 <;> rfl
 | some hu =>
   obtain ⟨h1, used⟩ := hu
   obtain ⟨a1, a2, a3, a4⟩ := h
   refine ⟨a3, a1, ?_, ?_, fun _ => a2⟩
   ·show (P.2 : Int) = (used : Int)
    rw [← a4]
    simp
   ·show _ = true
    rw [a1]
    cases P.1.all <;> rfl
theorem pRun_pos (kind fields fold : Int) : ∀ (x : List UInt8) (p : PaS), p.fin = false → p.e = 0 → (pRun kind fields fold x p).1.e = 0 → (pRun kind fields fold x p).1.fin = true → 0 < (pRun kind fields fold x p).2
 | [], p, h1, h2, h3, h4 => by
   have : p.fin = true := h4
   rw [h1] at this
   cases this
 | c :: r, p, h1, h2, h3, h4 => by
   rw [pRun, if_neg (by rw [h1, h2]; simp)] at h3 h4 ⊢
   by_cases hs : (seeP p.ln c).2 = 0
   ·rw [if_pos hs]
    exact Nat.succ_pos _
   ·rw [if_neg hs] at h4
    have : p.fin = true := h4
    rw [h1] at this
    cases this
theorem got_le (m : Lm) (k n : Int) (closed : Bool) (x : List UInt8) (hn : n ≤ 9223372036854775807) : (gotRead m k n closed x).used ≤ x.length := by
 have h := open_eq m k n x
 have h2 := (bRun_ok m (x.length + 1) (bNew m k n) x (bNew_ok m k n hn)).2
 have h3 : (gotOpen m k n x).used ≤ x.length := by
  rw [← h.u]
  exact h2
 unfold gotRead
 simp only
 split
 ·exact h3
 split
 ·exact h3
 ·exact h3
theorem numRes_le (l : List UInt8) (b most : Int) (hm : 0 ≤ most) : (numRes l b most).1 ≤ most := by
 unfold numRes
 split
 ·exact hm
 split
 ·exact hm
 split
 ·assumption
 ·exact hm
theorem lenF_le : ∀ (l : List ByteArray) (f r : Int), lenF f l = some r → (l = [] ∧ r = f) ∨ r ≤ 2147483647
 | [], f, r, h => by cases h; exact Or.inl ⟨rfl, rfl⟩
 | p :: t, f, r, h => by
   unfold lenF at h
   split at h
   ·cases h
   ·right
    rcases lenF_le t _ r h with ⟨_, h1⟩ | h1
    ·rw [h1]; exact numRes_le _ _ _ (by decide)
    ·exact h1
theorem saidP_len (fs : List Fd) (minor : Int) : 0 ≤ (saidP fs minor).2.1 ∧ (saidP fs minor).2.1 ≤ 2147483647 := by
 unfold saidP
 split
 ·exact (by decide : (0 : Int) ≤ 0 ∧ (0 : Int) ≤ 2147483647)
 split
 ·exact (by decide : (0 : Int) ≤ 0 ∧ (0 : Int) ≤ 2147483647)
 cases hl : lenP fs with
 | none => exact (by decide : (0 : Int) ≤ 0 ∧ (0 : Int) ≤ 2147483647)
 | some n =>
   simp only
   split
   ·exact (by decide : (0 : Int) ≤ 0 ∧ (0 : Int) ≤ 2147483647)
   split
   ·rename_i h0
    refine ⟨h0, ?_⟩
    rcases lenF_le _ _ _ hl with ⟨_, h1⟩ | h1
    ·show n ≤ _
     omega
    ·exact h1
   ·exact (by decide : (0 : Int) ≤ 0 ∧ (0 : Int) ≤ 2147483647)
theorem frmP_len (kind : Int) (h : Hd) (method : ByteArray) : 0 ≤ (frmP kind h method).2.1 ∧ (frmP kind h method).2.1 ≤ 2147483647 := by
 have h1 := saidP_len h.fs h.k
 unfold frmP
 split
 ·unfold reqP
  split
  ·exact (by decide : (0 : Int) ≤ 0 ∧ (0 : Int) ≤ 2147483647)
  split
  ·exact (by decide : (0 : Int) ≤ 0 ∧ (0 : Int) ≤ 2147483647)
  ·exact h1
 split
 ·exact (by decide : (0 : Int) ≤ 0 ∧ (0 : Int) ≤ 2147483647)
 ·unfold respP
  split
  ·exact (by decide : (0 : Int) ≤ 0 ∧ (0 : Int) ≤ 2147483647)
  ·exact h1
theorem oneP_used {m : Lm} {closed : Bool} {kind : Int} {method : ByteArray} {x : List UInt8} {M : MsgP} {u : Nat} (h : oneP m closed kind method x = .whole M u) : 0 < u ∧ u ≤ x.length := by
 unfold oneP at h
 split at h
 ·cases h
 split at h
 ·cases h
 rename_i h1
 split at h
 ·split at h
  ·cases h
  split at h
  ·cases h
  ·cases h
 rename_i h2
 have hp := par_got kind m.fields m.fold m.head x
 have hf : (gotP kind m.fields m.fold m.head x).fin = true := by simpa using h2
 have he : (gotP kind m.fields m.fold m.head x).e = 0 := by simpa using h1
 have hpos := pRun_pos kind m.fields m.fold x (pa0 m.head) rfl rfl (hp.e.trans he) (hp.f.trans hf)
 have hle := pRun_le kind m.fields m.fold x (pa0 m.head)
 have hu : (gotP kind m.fields m.fold m.head x).used.toNat = (pRun kind m.fields m.fold x (pa0 m.head)).2 := by rw [← hp.u]; simp
 rw [hu] at h
 unfold bodyP at h
 split at h
 ·cases h
 split at h
 ·cases h
 split at h
 ·cases h
 ·injection h with _ h
  have hb := got_le m (frmP kind (gotP kind m.fields m.fold m.head x).hd method).1 (frmP kind (gotP kind m.fields m.fold m.head x).hd method).2.1 closed (x.drop (pRun kind m.fields m.fold x (pa0 m.head)).2) (by have := (frmP_len kind (gotP kind m.fields m.fold m.head x).hd method).2; omega)
  rw [List.length_drop] at hb
  omega
def reqsP (m : Lm) (closed : Bool) : Nat → List UInt8 → Nat → List MsgP → List MsgP × (Int × Nat × Int)
 | 0, _, at_, acc => (acc, (0, at_, 0))
 | f + 1, x, at_, acc => match oneP m closed 1 ⟨#[]⟩ x with
   | .tail k e => (acc, (k, at_, e))
   | .whole M u => reqsP m closed f (x.drop u) (at_ + u) (acc ++ [M])
def respsP (m : Lm) (closed : Bool) : Nat → List ByteArray → List UInt8 → Nat → List MsgP → List MsgP × (Int × Nat × Int)
 | 0, _, _, at_, acc => (acc, (0, at_, 0))
 | f + 1, ts, x, at_, acc => match ts with
   | [] => (acc, (if x ≠ [] then 3 else 0, at_, 0))
   | t :: r => match oneP m closed 2 t x with
     | .tail k e => (acc, (k, at_, e))
     | .whole M u => respsP m closed f (if 199 < M.hd.n then r else t :: r) (x.drop u) (at_ + u) (acc ++ [M])
end Go.Proofs.YtaojfiegnebbdaaGreatDoor
-- EbB
namespace Go.Proofs.YtaojfiegnebbdaaGreatDoor
open Go.RowKit
theorem chunks_enc : ∀ (ps : List ByteArray) (o : ByteArray), (∀ p ∈ ps, 0 < p.data.toList.length) → (ps.foldl (fun o p => o ++ (beginB p.size ++ p ++ crlf)) o).data.toList = o.data.toList ++ encC ps
 | [], o, _ => by simp [encC]
 | p :: ps, o, h => by
   have hp := h p (by simp)
   have e1 : (beginB p.size).data.toList = figL 16 p.data.toList.length ++ [13, 10] := by
    have hz : (p.size : Int) = p.data.toList.length := by simp
    unfold beginB clineB hexB crlf
    rw [if_neg (by omega), if_neg (by omega), if_neg (by omega), hz]
    simp
   rw [List.foldl_cons, chunks_enc ps _ (fun q hq => h q (by simp [hq]))]
   have e2 : (o ++ (beginB p.size ++ p ++ crlf)).data.toList = o.data.toList ++ (figL 16 p.data.toList.length ++ [13, 10] ++ p.data.toList ++ [13, 10]) := by
    have : ∀ a b : ByteArray, (a ++ b).data.toList = a.data.toList ++ b.data.toList := fun a b => by simp
    rw [this, this, this, e1]
    rfl
   rw [e2]
   unfold encC
   simp
theorem lastA_enc (l : List Fd) : ∀ o : ByteArray, (l.foldl (fun o f => o ++ frow f) o).data.toList = o.data.toList ++ encL (l.map fun f => (flineB f.1 f.2).data.toList) := by
 induction l with
 | nil => intro o; simp [encL]
 | cons f l ih =>
   intro o
   rw [List.foldl_cons, ih, List.map_cons, encL_cons]
   unfold frow crlf
   simp
theorem last_enc (l : List Fd) : (lastB l).data.toList = 48 :: 13 :: 10 :: (encL (l.map fun f => (flineB f.1 f.2).data.toList) ++ 13 :: 10 :: []) := by
 have : ∀ a b : ByteArray, (a ++ b).data.toList = a.data.toList ++ b.data.toList := fun a b => by simp
 unfold lastB
 rw [this]
 unfold lastA
 rw [lastA_enc]
 unfold crlf
 simp
theorem cutP_spec (s : ByteArray) (z : List Int) (hp : ∀ n ∈ z, 1 ≤ n) (hs : offK z z.length = s.size) : ∀ k, k ≤ z.length → (cutP s z k).flatMap (fun p => p.data.toList) = s.data.toList.take (offK z k) ∧ (cutP s z k).map (fun p => (p.data.toList.length : Int)) = z.take k := by
 intro k
 induction k with
 | zero => intro _; rw [offK_zero]; exact ⟨by simp [cutP], by simp [cutP]⟩
 | succ k ih =>
   intro hk
   obtain ⟨h1, h2⟩ := ih (by omega)
   have hkz : z[k]? = some z[k] := List.getElem?_eq_getElem (by omega)
   have ho := offK_succ z hkz
   have hle : offK z (k + 1) ≤ s.size := by rw [← hs]; exact offK_mono z hk
   have hlen : s.data.toList.length = s.size := (Lib.size_eq s).symm
   have hpk := hp z[k] (List.getElem_mem _)
   rw [cutP_succ, List.flatMap_append, List.map_append, h1, h2]
   constructor
   ·simp only [List.flatMap_cons, List.flatMap_nil, List.append_nil]
    rw [Lib.extract_data, ho, Nat.add_sub_cancel_left, ← List.take_add]
   ·rw [List.take_add_one, hkz]
    simp only [List.map_cons, List.map_nil, Option.toList_some, List.append_cancel_left_eq, List.cons.injEq, and_true]
    rw [Lib.extract_data, List.length_take, List.length_drop, hlen]
    omega
theorem cutP_mem (s : ByteArray) (z : List Int) (hp : ∀ n ∈ z, 1 ≤ n) (hs : offK z z.length = s.size) : ∀ p ∈ cutP s z z.length, 0 < p.data.toList.length ∧ p.data.toList.length ≤ s.size := by
 intro p hm
 have h2 := (cutP_spec s z hp hs z.length (nR _)).2
 rw [List.take_length] at h2
 have hm' : (p.data.toList.length : Int) ∈ z := by rw [← h2]; exact List.mem_map_of_mem hm
 have := hp _ hm'
 refine ⟨by omega, ?_⟩
 obtain ⟨j, _, rfl⟩ := List.mem_map.1 hm
 have e := Lib.size_eq (s.extract (offK z j) (offK z (j + 1)))
 rw [← e, ByteArray.size_extract]
 omega
theorem encC_long : ∀ (ps : List ByteArray), 4 * ps.length ≤ (encC ps).length
 | [] => nR _
 | p :: ps => by
   have e : encC (p :: ps) = (figL 16 p.data.toList.length ++ 13 :: 10 :: (p.data.toList ++ [13, 10])) ++ encC ps := rfl
   have := encC_long ps
   rw [e, List.length_append]
   simp only [List.length_append, List.length_cons, List.length_nil]
   omega
theorem lsum_long : ∀ (ls : List (List UInt8)), 2 * ls.length ≤ lsum ls
 | [] => nR _
 | x :: ls => by
   have e : lsum (x :: ls) = x.length + 2 + lsum ls := by unfold lsum; simp
   have := lsum_long ls
   rw [e, List.length_cons]
   omega
end Go.Proofs.YtaojfiegnebbdaaGreatDoor
-- MsG
namespace Go.Proofs.YtaojfiegnebbdaaGreatDoor
open Go.RowKit
def GotP.ends (g : GotP) : Prop := g.over = true ∨ g.err ≠ 0
def OutP.stands : OutP → Prop
 | .whole _ _ => True
 | .tail k _ => k = 2
theorem reqsP_acc (m : Lm) (closed : Bool) : ∀ (f : Nat) (x : List UInt8) (at_ : Nat) (acc : List MsgP), (∃ C, (reqsP m closed f x at_ acc).1 = acc ++ C) ∧ at_ ≤ (reqsP m closed f x at_ acc).2.2.1
 | 0, x, at_, acc => ⟨⟨[], by simp [reqsP]⟩, nR _⟩
 | f + 1, x, at_, acc => by
   rw [reqsP]
   cases oneP m closed 1 ⟨#[]⟩ x with
   | tail k e => exact ⟨⟨[], by simp⟩, nR _⟩
   | whole M u =>
     obtain ⟨⟨C, h1⟩, h2⟩ := reqsP_acc m closed f (x.drop u) (at_ + u) (acc ++ [M])
     exact ⟨⟨M :: C, by rw [h1]; simp⟩, nT (Nat.le_add_right at_ u) h2⟩
end Go.Proofs.YtaojfiegnebbdaaGreatDoor