/- Texts packed for one claim, 45 of 49: EbA EbB. -/
import Derived.Test.YtbglakhojbhfbaaGreatDoorEncodeBackQ32
import Derived.Test.YtbglakhojbhfbaaGreatDoorEncodeBackQ41
import Derived.Test.YtbglakhojbhfbaaGreatDoorEncodeBackQ42
import Derived.Test.YtbglakhojbhfbaaGreatDoorEncodeBackQ44
set_option linter.unusedSimpArgs false
set_option linter.unusedVariables false
-- EbA
namespace Go.Proofs.YtbglakhojbhfbaaGreatDoor
open Go.RowKit
theorem seeP_char {s : LnS} {c : UInt8} (h10 : c ≠ 10) (h13 : c ≠ 13) (hw : s.whole = false) (ht : s.turn = false) (hl : 1 ≤ s.left) : seeP s c = ({ s with line := s.line ++ [c], left := s.left - 1, spent := s.spent + 1, within := true }, 0) := by
  unfold seeP
  rw [if_neg (by omega), if_neg (by rw [ht, decide_eq_false h10]; simp), if_neg h13, if_neg h10, hw]
  rfl
/-- A line and its end, read. -/
theorem lnFeed_line : ∀ (x r : List UInt8) (s : LnS), noB x → s.whole = false → s.turn = false → s.e = 0 → (x.length : Int) + 2 ≤ s.left →
    lnFeed (x ++ 13 :: 10 :: r) s = ({ s with left := s.left - (x.length + 2), spent := s.spent + (x.length + 2), line := s.line ++ x, within := false, turn := false, whole := true, e := 0 }, x.length + 2)
  | [], r, s, _, hw, ht, he, hl => by
    obtain ⟨L, S, Ln, Wi, Tu, Wh, E⟩ := s
    simp only at hw ht he hl
    subst hw ht he
    have e1 : seeP ⟨L, S, Ln, Wi, false, false, 0⟩ 13 = (⟨L - 1, S + 1, Ln, true, true, false, 0⟩, 0) := by
      unfold seeP
      rw [if_neg (by simp only; simp at hl; omega), if_neg (by show ¬ (false ≠ decide ((13 : UInt8) = 10)); decide), if_pos rfl]
      rfl
    have e2 : seeP ⟨L - 1, S + 1, Ln, true, true, false, 0⟩ 10 = (⟨L - 1 - 1, S + 1 + 1, Ln, false, false, true, 0⟩, 0) := by
      unfold seeP
      rw [if_neg (by simp only; simp at hl; omega), if_neg (by show ¬ (true ≠ decide ((10 : UInt8) = 10)); decide), if_neg (by decide), if_pos rfl]
    rw [List.nil_append, lnFeed, if_neg (by simp), e1, if_pos rfl, lnFeed, if_neg (by simp), e2, if_pos rfl, lnFeed_stop _ _ (Or.inl rfl)]
    simp
    omega
  | c :: x, r, s, hb, hw, ht, he, hl => by
    obtain ⟨h10, h13⟩ := hb c (by simp)
    rw [List.length_cons] at hl
    have hl' : (x.length : Int) + 3 ≤ s.left := by omega
    rw [List.cons_append, lnFeed, if_neg (by rw [hw, he]; simp), seeP_char h10 h13 hw ht (by omega), if_pos rfl,
      lnFeed_line x r { s with line := s.line ++ [c], left := s.left - 1, spent := s.spent + 1, within := true, e := 0 } (fun b hb' => hb b (by simp [hb'])) hw ht rfl (by show (x.length : Int) + 2 ≤ s.left - 1; omega)]
    simp
    omega
/-- The figures to the base 16. -/
theorem figD_hex {d : Nat} (h : d < 16) : digV (figD d).toNat = d ∧ figD d ≠ 10 ∧ figD d ≠ 13 := by
  rcases (by omega : d = 0 ∨ d = 1 ∨ d = 2 ∨ d = 3 ∨ d = 4 ∨ d = 5 ∨ d = 6 ∨ d = 7 ∨ d = 8 ∨ d = 9 ∨ d = 10 ∨ d = 11 ∨ d = 12 ∨ d = 13 ∨ d = 14 ∨ d = 15) with rfl | rfl | rfl | rfl | rfl | rfl | rfl | rfl | rfl | rfl | rfl | rfl | rfl | rfl | rfl | rfl <;> decide
theorem figL_hexd (n : Nat) : ∀ c ∈ figL 16 n, ∃ d, d < 16 ∧ c = figD d := by
  induction n using Nat.strongRecOn with
  | ind n ih =>
    intro c hc
    rw [figL] at hc
    split at hc
    · rcases List.mem_append.1 hc with hc | hc
      · exact ih _ (Nat.div_lt_self (by omega) (by omega)) c hc
      · exact ⟨n % 16, by omega, by simpa using hc⟩
    · exact ⟨n, by omega, by simpa using hc⟩
theorem figL_hexv (n : Nat) : numV 16 (figL 16 n) = n := by
  induction n using Nat.strongRecOn with
  | ind n ih =>
    rw [figL]
    split
    · rw [numV_snoc, ih _ (Nat.div_lt_self (by omega) (by omega)), (figD_hex (Nat.mod_lt _ (by decide))).1]
      omega
    · show (0 : Int) * 16 + digV (figD n).toNat = n
      rw [(figD_hex (by omega)).1]
      omega
theorem figL_hexlen (n : Nat) : ∀ k, n < 16 ^ (k + 1) → (figL 16 n).length ≤ k + 1 := by
  intro k
  induction k generalizing n with
  | zero =>
    intro h
    rw [figL, dif_neg (by omega)]
    exact Nat.le_refl _
  | succ k ih =>
    intro h
    rw [figL]
    split
    · rw [List.length_append]
      have := ih (n / 16) (by rw [Nat.pow_succ] at h; exact Nat.div_lt_of_lt_mul (by omega))
      simp only [List.length_singleton]
      omega
    · simp
theorem noB_hex (n : Nat) : noB (figL 16 n) := fun c hc => by
  obtain ⟨d, hd, rfl⟩ := figL_hexd n c hc
  exact (figD_hex hd).2
theorem takeWhile_all (p : UInt8 → Bool) : ∀ l : List UInt8, (∀ c ∈ l, p c = true) → l.takeWhile p = l
  | [], _ => rfl
  | c :: l, h => by rw [List.takeWhile_cons, if_pos (h c (by simp)), takeWhile_all p l (fun d hd => h d (by simp [hd]))]
theorem chunkP_hex (n : Nat) (h : n ≤ 2147483647) : chunkP (figL 16 n) = ((n : Int), 0) := by
  have hall : ∀ c ∈ figL 16 n, hxdB c = true := fun c hc => by
    obtain ⟨d, hd, rfl⟩ := figL_hexd n c hc
    unfold hxdB digB
    rw [(figD_hex hd).1]
    exact decide_eq_true (by omega)
  have h1 : (figL 16 n).takeWhile hxdB = figL 16 n := takeWhile_all _ _ hall
  have hne := figL_ne (b := 16) (by decide) n
  have h2 : (figL 16 n).dropWhile hxdB = [] := by
    have := List.takeWhile_append_dropWhile (p := hxdB) (l := figL 16 n)
    rw [h1] at this
    exact List.append_cancel_left (by rw [this, List.append_nil])
  unfold chunkP
  rw [if_neg hne, h1, if_neg hne, h2]
  show numRes (figL 16 n) 16 2147483647 = _
  have h3 : (figL 16 n).isEmpty = false := by
    cases hf : figL 16 n with
    | nil => exact absurd hf hne
    | cons _ _ => rfl
  have h4 : (figL 16 n).all (digB 16) = true := List.all_eq_true.2 (fun c hc => hall c hc)
  unfold numRes
  rw [h3, h4, figL_hexv]
  simp
  omega
/-- A decoder ahead of a chunk's line. -/
def szS (m : Lm) (left : Int) (out : List Pc) : BdS := ⟨.size, left, ln0 m.line, [], [], false, false, 0, out⟩
theorem bRun_one {m : Lm} {f : Nat} {s S : BdS} {x y : List UInt8} {k : Nat} (hx : x ≠ []) (ho : s.opens = true) (hs : bStep m s x = (S, k)) (hd : x.drop k = y) : bRun m (f + 1) s x = ((bRun m f S y).1, k + (bRun m f S y).2) := by
  rw [bRun_go hx ho, hs, hd]
theorem whole_line {s : BdS} {x r : List UInt8} (hx : noB x) (hw : s.ln.whole = false) (ht : s.ln.turn = false) (he : s.ln.e = 0) (hl : (x.length : Int) + 2 ≤ s.ln.left) :
    s.whole (x ++ 13 :: 10 :: r) = ({ s with ln := { s.ln with left := s.ln.left - (x.length + 2), spent := s.ln.spent + (x.length + 2), line := s.ln.line ++ x, within := false, turn := false, whole := true, e := 0 } }, x.length + 2, true) := by
  unfold BdS.whole
  rw [lnFeed_line x r s.ln hx hw ht he hl]
  rfl
theorem drop_line (x r : List UInt8) : (x ++ 13 :: 10 :: r).drop (x.length + 2) = r := by
  rw [List.drop_append, List.drop_eq_nil_of_le (by omega)]
  simp
/-- A chunk's line, read. -/
theorem size_step (m : Lm) (left : Int) (out : List Pc) (n : Nat) (h0 : 0 < n) (h1 : n ≤ 2147483647) (hl : ((figL 16 n).length : Int) + 2 ≤ m.line) (r : List UInt8) :
    ∃ L, bStep m (szS m left out) (figL 16 n ++ 13 :: 10 :: r) = (⟨.data, n, L, [], [], false, false, 0, out ++ [⟨2, n, ⟨#[]⟩⟩]⟩, (figL 16 n).length + 2) := by
  rw [bStep_size rfl, whole_line (noB_hex n) rfl rfl rfl hl]
  have e : (ln0 m.line).line ++ figL 16 n = figL 16 n := rfl
  simp only [szS, e, chunkP_hex n h1]
  rw [if_neg (by decide), if_neg (by decide), if_neg (by omega)]
  exact ⟨_, rfl⟩
theorem data_step (m : Lm) (n : Nat) (L : LnS) (out : List Pc) (p r : List UInt8) (hp : p.length = n) :
    bStep m ⟨.data, n, L, [], [], false, false, 0, out⟩ (p ++ r) = (⟨.cr, 0, L, [], [], false, false, 0, out ++ [⟨3, 0, strL p⟩]⟩, n) := by
  subst hp
  have hm : min ((p ++ r).length : Int) (p.length : Int) = p.length := by rw [List.length_append]; omega
  unfold bStep BdS.some BdS.rest BdS.put strL
  simp only [hm, Int.toNat_natCast, List.take_left, Int.sub_self]
  rfl
theorem chunk_run (m : Lm) (left : Int) (out : List Pc) (p r : List UInt8) (h0 : 0 < p.length) (h1 : p.length ≤ 2147483647) (hl : ((figL 16 p.length).length : Int) + 2 ≤ m.line) (f : Nat) :
    bRun m (f + 4) (szS m left out) (figL 16 p.length ++ 13 :: 10 :: (p ++ 13 :: 10 :: r)) = ((bRun m f (szS m 0 (out ++ [⟨2, p.length, ⟨#[]⟩⟩, ⟨3, 0, strL p⟩])) r).1, (figL 16 p.length ++ 13 :: 10 :: (p ++ [13, 10])).length + (bRun m f (szS m 0 (out ++ [⟨2, p.length, ⟨#[]⟩⟩, ⟨3, 0, strL p⟩])) r).2) := by
  obtain ⟨L, hs⟩ := size_step m left out p.length h0 h1 hl (p ++ 13 :: 10 :: r)
  have hne := figL_ne (b := 16) (by decide) p.length
  have e1 : bRun m (f + 4) (szS m left out) (figL 16 p.length ++ 13 :: 10 :: (p ++ 13 :: 10 :: r)) = _ := bRun_one (f := f + 3) (by simp) rfl hs (drop_line _ _)
  rw [e1, bRun_one (f := f + 2) (by simp) rfl (data_step m p.length L _ p (13 :: 10 :: r) rfl) (List.drop_left' rfl)]
  rw [bRun_one (f := f + 1) (S := ⟨.lf, 0, L, [], [], false, false, 0, out ++ [⟨2, p.length, ⟨#[]⟩⟩] ++ [⟨3, 0, strL p⟩]⟩) (k := 1) (y := 10 :: r) (by simp) rfl rfl rfl]
  rw [bRun_one (f := f) (S := szS m 0 (out ++ [⟨2, p.length, ⟨#[]⟩⟩] ++ [⟨3, 0, strL p⟩])) (k := 1) (y := r) (by simp) rfl rfl rfl]
  rw [List.append_assoc]
  refine Prod.ext rfl ?_
  simp only [List.length_append, List.length_cons, List.length_nil]
  show _ = _
  simp only [List.cons_append, List.nil_append]
  omega
/-- The octets of chunks. -/
def encC (ps : List ByteArray) : List UInt8 := ps.flatMap fun p => figL 16 p.data.toList.length ++ 13 :: 10 :: (p.data.toList ++ [13, 10])
def outC (ps : List ByteArray) : List Pc := ps.flatMap fun p => [⟨2, p.data.toList.length, ⟨#[]⟩⟩, ⟨3, 0, p⟩]
theorem chunks_run (m : Lm) : ∀ (ps : List ByteArray) (left : Int) (out : List Pc) (r : List UInt8) (f : Nat), (∀ p ∈ ps, 0 < p.data.toList.length ∧ p.data.toList.length ≤ 2147483647 ∧ ((figL 16 p.data.toList.length).length : Int) + 2 ≤ m.line) →
    ∃ left', bRun m (f + 4 * ps.length) (szS m left out) (encC ps ++ r) = ((bRun m f (szS m left' (out ++ outC ps)) r).1, (encC ps).length + (bRun m f (szS m left' (out ++ outC ps)) r).2)
  | [], left, out, r, f, _ => ⟨left, by simp [encC, outC]⟩
  | p :: ps, left, out, r, f, h => by
    obtain ⟨h1, h2, h3⟩ := h p (by simp)
    obtain ⟨left', ih⟩ := chunks_run m ps 0 (out ++ [⟨2, p.data.toList.length, ⟨#[]⟩⟩, ⟨3, 0, strL p.data.toList⟩]) r f (fun q hq => h q (by simp [hq]))
    refine ⟨left', ?_⟩
    have e1 : encC (p :: ps) ++ r = figL 16 p.data.toList.length ++ 13 :: 10 :: (p.data.toList ++ 13 :: 10 :: (encC ps ++ r)) := by
      unfold encC
      simp
    have e2 : out ++ outC (p :: ps) = out ++ [⟨2, p.data.toList.length, ⟨#[]⟩⟩, ⟨3, 0, strL p.data.toList⟩] ++ outC ps := by
      rw [strL_data]
      unfold outC
      simp
    have e3 : (encC (p :: ps)).length = (figL 16 p.data.toList.length ++ 13 :: 10 :: (p.data.toList ++ [13, 10])).length + (encC ps).length := by
      unfold encC
      rw [List.flatMap_cons, List.length_append]
    rw [e1, e2, e3, show f + 4 * (p :: ps).length = (f + 4 * ps.length) + 4 by rw [List.length_cons]; omega, chunk_run m left out p.data.toList (encC ps ++ r) h1 h2 h3, ih]
    exact Prod.ext rfl (by simp only [Nat.add_assoc])
/-- Trailers, read. -/
theorem trail_run (m : Lm) (left : Int) (out : List Pc) (l : List Fd) : ∀ (ls : List (List UInt8)) (ln : LnS) (all : List ByteArray) (r : List UInt8) (f : Nat), (∀ x ∈ ls, noB x ∧ x ≠ []) → ln.whole = false → ln.turn = false → ln.e = 0 → ln.line = [] → (lsum ls : Int) + 2 ≤ ln.left →
    allF m.fold (all ++ ls.map strL) = (l, 0) → ((all ++ ls.map strL).length : Int) ≤ m.fields →
    ∃ S, bRun m (f + ls.length + 1) ⟨.trailer, left, ln, all, [], false, false, 0, out⟩ (encL ls ++ 13 :: 10 :: r) = (S, lsum ls + 2) ∧ S.over = true ∧ S.e = 0 ∧ S.tr = l ∧ S.out = out ++ [⟨4, 0, ⟨#[]⟩⟩]
  | [], ln, all, r, f, _, hw, ht, he, hli, hl, ha, hf => by
    have e0 : (encL [] ++ 13 :: 10 :: r) = ([] ++ 13 :: 10 :: r : List UInt8) := rfl
    rw [List.map_nil, List.append_nil] at ha hf
    have hl' : ((([] : List UInt8).length : Nat) : Int) + 2 ≤ ln.left := by
      have : lsum [] = 0 := rfl
      rw [this] at hl
      simpa using hl
    have hst : bStep m ⟨.trailer, left, ln, all, [], false, false, 0, out⟩ ([] ++ 13 :: 10 :: r) = (({ ((⟨.trailer, left, { ln with left := ln.left - (([] : List UInt8).length + 2), spent := ln.spent + (([] : List UInt8).length + 2), line := ln.line ++ [], within := false, turn := false, whole := true, e := 0 }, all, [], false, false, 0, out⟩ : BdS).read { ln with left := ln.left - (([] : List UInt8).length + 2), spent := ln.spent + (([] : List UInt8).length + 2), line := ln.line ++ [], within := false, turn := false, whole := true, e := 0 }) with tr := l } : BdS).ends, ([] : List UInt8).length + 2) := by
      rw [bStep_trailer rfl, whole_line (by intro b hb; cases hb) hw ht he hl']
      simp only [hli, List.append_nil]
      rw [if_neg (by decide), if_neg (by simp), if_neg (by omega), ha]
      simp
    rw [e0, bRun_one (f := f + [].length) (by simp) rfl hst (drop_line [] r), bRun_stop (Or.inr rfl)]
    exact ⟨_, rfl, rfl, rfl, rfl, rfl⟩
  | x :: ls, ln, all, r, f, hb, hw, ht, he, hli, hl, ha, hf => by
    obtain ⟨hx1, hx2⟩ := hb x (by simp)
    have e : lsum (x :: ls) = x.length + 2 + lsum ls := by unfold lsum; simp
    rw [e] at hl ⊢
    have e0 : encL (x :: ls) ++ 13 :: 10 :: r = x ++ 13 :: 10 :: (encL ls ++ 13 :: 10 :: r) := by rw [encL_cons]; simp
    have hst : bStep m ⟨.trailer, left, ln, all, [], false, false, 0, out⟩ (x ++ 13 :: 10 :: (encL ls ++ 13 :: 10 :: r)) = (⟨.trailer, left, { ln with left := ln.left - (x.length + 2), spent := ln.spent + (x.length + 2), line := [], within := false, turn := false, whole := false, e := 0 }, all ++ [strL x], [], false, false, 0, out⟩, x.length + 2) := by
      rw [bStep_trailer rfl, whole_line hx1 hw ht he (by show (x.length : Int) + 2 ≤ ln.left; omega)]
      simp only [hli, List.nil_append]
      rw [if_neg (by decide), if_pos hx2]
      rfl
    rw [e0, show f + (x :: ls).length + 1 = (f + ls.length + 1) + 1 by rw [List.length_cons]; omega, bRun_one (by simp) rfl hst (drop_line _ _)]
    obtain ⟨S, h1, h2⟩ := trail_run m left out l ls { ln with left := ln.left - (x.length + 2), spent := ln.spent + (x.length + 2), line := [], within := false, turn := false, whole := false, e := 0 } (all ++ [strL x]) r f (fun y hy => hb y (by simp [hy])) rfl rfl rfl rfl (by show (lsum ls : Int) + 2 ≤ ln.left - (x.length + 2); omega) (by rw [List.append_assoc]; exact ha) (by rw [List.append_assoc]; exact hf)
    refine ⟨S, ?_, h2⟩
    rw [h1]
    exact Prod.ext rfl (by show _ + _ = _; omega)
/-- The last chunk's line, read. -/
theorem last_step (m : Lm) (left : Int) (out : List Pc) (hl : 3 ≤ m.line) (r : List UInt8) : bStep m (szS m left out) (48 :: 13 :: 10 :: r) = (⟨.trailer, left, ln0 m.head, [], [], false, false, 0, out⟩, 3) := by
  have e0 : (48 :: 13 :: 10 :: r : List UInt8) = [48] ++ 13 :: 10 :: r := rfl
  rw [e0, bStep_size rfl, whole_line (fun b hb => by simp at hb; subst hb; decide) rfl rfl rfl (by show ((1 : Nat) : Int) + 2 ≤ m.line; omega)]
  have e : (ln0 m.line).line ++ [48] = [48] := rfl
  have hc : chunkP [48] = (0, 0) := by kernel_rfl
  simp only [szS, e, hc]
  rw [if_neg (by decide), if_neg (by decide), if_pos trivial]
  rfl
end Go.Proofs.YtbglakhojbhfbaaGreatDoor
-- EbB
namespace Go.Proofs.YtbglakhojbhfbaaGreatDoor
open Go.RowKit
/-- Chunks, gathered. -/
def gC : Gt → List ByteArray → Gt
  | g, [] => g
  | g, p :: ps => gC { g with body := g.body ++ p, sizes := g.sizes ++ [(p.data.toList.length : Int)], at_ := g.at_ ++ [(g.body.size : Int)] } ps
theorem data_ne {p : ByteArray} (h : 0 < p.data.toList.length) : p.toList.isEmpty = false := by
  rw [ByteArray.toList_eq]
  cases e : p.data.toList with
  | nil => rw [e] at h; exact absurd h (Nat.lt_irrefl _)
  | cons a b => rfl
theorem gath_chunks : ∀ (ps : List ByteArray) (g : Gt), (∀ p ∈ ps, 0 < p.data.toList.length) → g.over = false → g.err = 0 → g.odd = false → (outC ps).foldl gStep g = gC g ps
  | [], g, _, _, _, _ => rfl
  | p :: ps, g, h, h1, h2, h3 => by
    have e0 : outC (p :: ps) = ⟨2, p.data.toList.length, ⟨#[]⟩⟩ :: ⟨3, 0, p⟩ :: outC ps := rfl
    have s1 : gStep g ⟨2, p.data.toList.length, ⟨#[]⟩⟩ = { g with sizes := g.sizes ++ [(p.data.toList.length : Int)], at_ := g.at_ ++ [(g.body.size : Int)] } := by
      unfold gStep Gt.guard
      rw [if_neg (by rw [h1, h2]; simp)]
      rfl
    have s2 : gStep { g with sizes := g.sizes ++ [(p.data.toList.length : Int)], at_ := g.at_ ++ [(g.body.size : Int)] } ⟨3, 0, p⟩ = { g with body := g.body ++ p, sizes := g.sizes ++ [(p.data.toList.length : Int)], at_ := g.at_ ++ [(g.body.size : Int)] } := by
      unfold gStep Gt.guard
      rw [if_neg (by simp only; rw [h1, h2]; simp)]
      unfold Gt.take
      simp only
      rw [if_neg (by decide), if_pos trivial, h3, data_ne (h p (by simp))]
      rfl
    rw [e0, List.foldl_cons, List.foldl_cons, s1, s2, gath_chunks ps { g with body := g.body ++ p, sizes := g.sizes ++ [(p.data.toList.length : Int)], at_ := g.at_ ++ [(g.body.size : Int)] } (fun q hq => h q (by simp [hq])) h1 h2 h3]
    rfl
/-- Sizes come where they should. -/
structure GtOk (g : Gt) : Prop where
  o : g.over = false
  e : g.err = 0
  d : g.odd = false
  l : g.at_.length = g.sizes.length
  b : (g.body.size : Int) = g.sizes.sum
  a : ∀ i (h : i < g.at_.length), g.at_[i] = (g.sizes.take i).sum
/-- What Fits asks. -/
structure GtFit (g : Gt) : Prop where
  d : g.odd = false
  l : g.at_.length = g.sizes.length
  b : g.sizes = [] ∨ (g.body.size : Int) = g.sizes.sum
  a : ∀ i (h : i < g.at_.length), g.at_[i] = (g.sizes.take i).sum
theorem GtOk.fit {g : Gt} (h : GtOk g) : GtFit g := ⟨h.d, h.l, Or.inr h.b, h.a⟩
theorem sum_snoc (l : List Int) (x : Int) : (l ++ [x]).sum = l.sum + x := by rw [List.sum_append]; simp
theorem GtOk.more {g : Gt} (h : GtOk g) (p : ByteArray) : GtOk { g with body := g.body ++ p, sizes := g.sizes ++ [(p.data.toList.length : Int)], at_ := g.at_ ++ [(g.body.size : Int)] } := by
  refine ⟨h.o, h.e, h.d, by simp [h.l], ?_, ?_⟩
  · show ((g.body ++ p).size : Int) = (g.sizes ++ [(p.data.toList.length : Int)]).sum
    rw [sum_snoc, ← h.b, ByteArray.size_append]
    simp
  · intro i hi
    show (g.at_ ++ [(g.body.size : Int)])[i] = ((g.sizes ++ [(p.data.toList.length : Int)]).take i).sum
    have hi' : i < g.at_.length + 1 := by simpa using hi
    by_cases h1 : i < g.at_.length
    · rw [List.getElem_append_left h1, h.a i h1, List.take_append_of_le_length (by rw [← h.l]; omega)]
    · have h2 : i = g.at_.length := by omega
      subst h2
      rw [List.getElem_append_right (Nat.le_refl _)]
      simp only [Nat.sub_self, List.getElem_cons_zero]
      rw [h.l, List.take_left' rfl]
      exact h.b
theorem gC_ok : ∀ (ps : List ByteArray) (g : Gt), GtOk g → GtOk (gC g ps) ∧ (gC g ps).sizes = g.sizes ++ ps.map (fun p => (p.data.toList.length : Int)) ∧ (gC g ps).body.data.toList = g.body.data.toList ++ ps.flatMap (fun p => p.data.toList)
  | [], g, h => ⟨h, by simp [gC], by simp [gC]⟩
  | p :: ps, g, h => by
    obtain ⟨h1, h2, h3⟩ := gC_ok ps _ (h.more p)
    refine ⟨h1, ?_, ?_⟩
    · rw [gC, h2]
      simp
    · rw [gC, h3]
      simp
/-- The chunks' octets. -/
theorem chunks_enc : ∀ (ps : List ByteArray) (o : ByteArray), (∀ p ∈ ps, 0 < p.data.toList.length) → (ps.foldl (fun o p => o ++ (beginB p.size ++ p ++ crlf)) o).data.toList = o.data.toList ++ encC ps
  | [], o, _ => by simp [encC]
  | p :: ps, o, h => by
    have hp := h p (by simp)
    have e1 : (beginB p.size).data.toList = figL 16 p.data.toList.length ++ [13, 10] := by
      have hz : (p.size : Int) = p.data.toList.length := by simp
      unfold beginB clineB hexB crlf
      rw [if_neg (by omega), if_neg (by omega), if_neg (by omega), hz]
      simp
    rw [List.foldl_cons, chunks_enc ps _ (fun q hq => h q (by simp [hq]))]
    have e2 : (o ++ (beginB p.size ++ p ++ crlf)).data.toList = o.data.toList ++ (figL 16 p.data.toList.length ++ [13, 10] ++ p.data.toList ++ [13, 10]) := by
      have : ∀ a b : ByteArray, (a ++ b).data.toList = a.data.toList ++ b.data.toList := fun a b => by simp
      rw [this, this, this, e1]
      rfl
    rw [e2]
    unfold encC
    simp
theorem lastA_enc (l : List Fd) : ∀ o : ByteArray, (l.foldl (fun o f => o ++ frow f) o).data.toList = o.data.toList ++ encL (l.map fun f => (flineB f.1 f.2).data.toList) := by
  induction l with
  | nil => intro o; simp [encL]
  | cons f l ih =>
    intro o
    rw [List.foldl_cons, ih, List.map_cons, encL_cons]
    unfold frow crlf
    simp
theorem last_enc (l : List Fd) : (lastB l).data.toList = 48 :: 13 :: 10 :: (encL (l.map fun f => (flineB f.1 f.2).data.toList) ++ 13 :: 10 :: []) := by
  have : ∀ a b : ByteArray, (a ++ b).data.toList = a.data.toList ++ b.data.toList := fun a b => by simp
  unfold lastB
  rw [this]
  unfold lastA
  rw [lastA_enc]
  unfold crlf
  simp
/-- The pieces that a text is cut into. -/
theorem cutP_spec (s : ByteArray) (z : List Int) (hp : ∀ n ∈ z, 1 ≤ n) (hs : offK z z.length = s.size) : ∀ k, k ≤ z.length → (cutP s z k).flatMap (fun p => p.data.toList) = s.data.toList.take (offK z k) ∧ (cutP s z k).map (fun p => (p.data.toList.length : Int)) = z.take k := by
  intro k
  induction k with
  | zero => intro _; rw [offK_zero]; exact ⟨by simp [cutP], by simp [cutP]⟩
  | succ k ih =>
    intro hk
    obtain ⟨h1, h2⟩ := ih (by omega)
    have hkz : z[k]? = some z[k] := List.getElem?_eq_getElem (by omega)
    have ho := offK_succ z hkz
    have hle : offK z (k + 1) ≤ s.size := by rw [← hs]; exact offK_mono z hk
    have hlen : s.data.toList.length = s.size := (Lib.size_eq s).symm
    have hpk := hp z[k] (List.getElem_mem _)
    rw [cutP_succ, List.flatMap_append, List.map_append, h1, h2]
    constructor
    · simp only [List.flatMap_cons, List.flatMap_nil, List.append_nil]
      rw [Lib.extract_data, ho, Nat.add_sub_cancel_left, ← List.take_add]
    · rw [List.take_add_one, hkz]
      simp only [List.map_cons, List.map_nil, Option.toList_some, List.append_cancel_left_eq, List.cons.injEq, and_true]
      rw [Lib.extract_data, List.length_take, List.length_drop, hlen]
      omega
theorem cutP_mem (s : ByteArray) (z : List Int) (hp : ∀ n ∈ z, 1 ≤ n) (hs : offK z z.length = s.size) : ∀ p ∈ cutP s z z.length, 0 < p.data.toList.length ∧ p.data.toList.length ≤ s.size := by
  intro p hm
  have h2 := (cutP_spec s z hp hs z.length (Nat.le_refl _)).2
  rw [List.take_length] at h2
  have hm' : (p.data.toList.length : Int) ∈ z := by rw [← h2]; exact List.mem_map_of_mem hm
  have := hp _ hm'
  refine ⟨by omega, ?_⟩
  obtain ⟨j, _, rfl⟩ := List.mem_map.1 hm
  have e := Lib.size_eq (s.extract (offK z j) (offK z (j + 1)))
  rw [← e, ByteArray.size_extract]
  omega
def ebM : Lm := ⟨65536, 100, 100, 0, 0⟩
/-- What comes back. -/
structure Back (k n : Int) (z : List Int) (s : ByteArray) (l : List Fd) (t : ByteArray) : Prop where
  used : (bFeed ebM (bNew ebM k n) t.data.toList).2 = t.size
  over : (bClose (bTold (bFeed ebM (bNew ebM k n) t.data.toList).1)).over = true
  tr : (bClose (bTold (bFeed ebM (bNew ebM k n) t.data.toList).1)).tr = l
  g : ∃ g, gathP ((bFeed ebM (bNew ebM k n) t.data.toList).1.out ++ (bClose (bTold (bFeed ebM (bNew ebM k n) t.data.toList).1)).out) = { g with over := true } ∧ GtFit g ∧ g.body = s ∧ g.sizes = z
  len : (bFeed ebM (bNew ebM k n) t.data.toList).1.out.length ≤ 1000
  len2 : (bClose (bTold (bFeed ebM (bNew ebM k n) t.data.toList).1)).out.length ≤ 1
theorem outC_length (ps : List ByteArray) : (outC ps).length = 2 * ps.length := by
  induction ps with
  | nil => rfl
  | cons p ps ih =>
    have e : outC (p :: ps) = ⟨2, p.data.toList.length, ⟨#[]⟩⟩ :: ⟨3, 0, p⟩ :: outC ps := rfl
    rw [e, List.length_cons, List.length_cons, ih, List.length_cons]
    omega
theorem gt0_ok : GtOk gt0 := ⟨rfl, rfl, rfl, rfl, rfl, fun i h => absurd h (Nat.not_lt_zero _)⟩
theorem encC_long : ∀ (ps : List ByteArray), 4 * ps.length ≤ (encC ps).length
  | [] => Nat.le_refl _
  | p :: ps => by
    have e : encC (p :: ps) = (figL 16 p.data.toList.length ++ 13 :: 10 :: (p.data.toList ++ [13, 10])) ++ encC ps := rfl
    have := encC_long ps
    rw [e, List.length_append]
    simp only [List.length_append, List.length_cons, List.length_nil]
    omega
theorem lsum_long : ∀ (ls : List (List UInt8)), 2 * ls.length ≤ lsum ls
  | [] => Nat.le_refl _
  | x :: ls => by
    have e : lsum (x :: ls) = x.length + 2 + lsum ls := by unfold lsum; simp
    have := lsum_long ls
    rw [e, List.length_cons]
    omega
/-- In chunks. -/
theorem back_chunks (n : Int) (z : List Int) (s : ByteArray) (l : List Fd) (hn : 0 ≤ n) (hc : cutF z s.size = some 0) (hb : badF l = false) (hs : s.size ≤ 2000) (hz : z.length ≤ 300) (hl : l.length ≤ 40) (hls : (lsum (l.map fun f => (flineB f.1 f.2).data.toList) : Int) ≤ 60000) :
    Back 2 n z s l (chunksL (cutP s z z.length) ++ lastB l) := by
  obtain ⟨hpos, hoff, _⟩ := cutF_off hc
  have hoff' : offK z z.length = s.size := by omega
  have hmem := cutP_mem s z hpos hoff'
  obtain ⟨hcat, hsz⟩ := cutP_spec s z hpos hoff' z.length (Nat.le_refl _)
  have hpl : (cutP s z z.length).length = z.length := cutP_length _ _ _
  have hr : allR l = true := by
    unfold badF at hb
    unfold allR
    rw [List.all_eq_true]
    intro f hf
    have := List.any_eq_false.1 hb f hf
    simpa using this
  have hdata : (chunksL (cutP s z z.length) ++ lastB l).data.toList = encC (cutP s z z.length) ++ (48 :: 13 :: 10 :: (encL (l.map fun f => (flineB f.1 f.2).data.toList) ++ 13 :: 10 :: [])) := by
    have : ∀ a b : ByteArray, (a ++ b).data.toList = a.data.toList ++ b.data.toList := fun a b => by simp
    rw [this, last_enc]
    unfold chunksL
    rw [chunks_enc _ _ (fun p hp => (hmem p hp).1)]
    rfl
  have hfig : ∀ p ∈ cutP s z z.length, 0 < p.data.toList.length ∧ p.data.toList.length ≤ 2147483647 ∧ ((figL 16 p.data.toList.length).length : Int) + 2 ≤ ebM.line := fun p hp => by
    obtain ⟨h1, h2⟩ := hmem p hp
    have := figL_hexlen p.data.toList.length 2 (by omega)
    exact ⟨h1, by omega, by show _ ≤ (100 : Int); omega⟩
  have hfl : ∀ x ∈ (l.map fun f => (flineB f.1 f.2).data.toList), noB x ∧ x ≠ [] := fun x hx => by
    obtain ⟨f, hf, rfl⟩ := List.mem_map.1 hx
    unfold allR at hr
    have := hb_fparse (List.all_eq_true.1 hr f hf)
    exact ⟨this.2.2.1, this.2.2.2⟩
  have hall : allF ebM.fold ([] ++ (l.map fun f => (flineB f.1 f.2).data.toList).map strL) = (l, 0) := by
    rw [List.nil_append, List.map_map]
    have e : (strL ∘ fun f : Fd => (flineB f.1 f.2).data.toList) = fun f => flineB f.1 f.2 := funext fun f => strL_data _
    rw [e]
    exact hb_all l hr
  have hnew : bNew ebM 2 n = szS ebM n [] := by
    unfold bNew
    simp only
    rw [if_neg (by show ¬ (n < 0 ∨ (100 : Int) < 0 ∨ 65536 < (100 : Int) ∨ (65536 : Int) < 0 ∨ 65536 < (65536 : Int)); omega), if_neg (by decide), if_neg (by decide), if_pos trivial]
    rfl
  generalize hps : cutP s z z.length = ps at *
  generalize hlsn : (l.map fun f => (flineB f.1 f.2).data.toList) = ls at *
  have hll : ls.length = l.length := by rw [← hlsn, List.length_map]
  generalize htl : (chunksL ps ++ lastB l).data.toList = T at *
  have hTlen : T.length = (encC ps).length + (3 + (lsum ls + 2)) := by
    rw [hdata]
    simp only [List.length_append, List.length_cons, List.length_nil, encL_length]
    omega
  have hTs : T.length = (chunksL ps ++ lastB l).size := by rw [← htl]; exact (Lib.size_eq _).symm
  have hc4 := encC_long ps
  have hl2 := lsum_long ls
  obtain ⟨f, hf⟩ : ∃ f, T.length + 1 = (f + ls.length + 1 + 1) + 4 * ps.length := ⟨T.length + 1 - (ls.length + 1 + 1 + 4 * ps.length), by omega⟩
  have hrun : ∃ S, bFeed ebM (bNew ebM 2 n) T = (S, T.length) ∧ S.over = true ∧ S.e = 0 ∧ S.tr = l ∧ S.out = outC ps ++ [⟨4, 0, ⟨#[]⟩⟩] := by
    unfold bFeed
    rw [hf, hnew]
    obtain ⟨left', e1⟩ := chunks_run ebM ps n [] (48 :: 13 :: 10 :: (encL ls ++ 13 :: 10 :: [])) (f + ls.length + 1 + 1) hfig
    obtain ⟨S, e2, h1, h2, h3, h4⟩ := trail_run ebM left' ([] ++ outC ps) l ls (ln0 ebM.head) [] [] f hfl rfl rfl rfl rfl (by show (lsum ls : Int) + 2 ≤ (65536 : Int); omega) hall (by show ((([] ++ ls.map strL).length : Nat) : Int) ≤ (100 : Int); rw [List.nil_append, List.length_map]; omega)
    rw [hdata, e1, bRun_one (y := encL ls ++ 13 :: 10 :: []) (by simp) rfl (last_step ebM left' _ (by decide) _) rfl, e2]
    refine ⟨S, Prod.ext rfl ?_, h1, h2, h3, by rw [h4, List.nil_append]⟩
    show (encC ps).length + (3 + (lsum ls + 2)) = _
    rw [← hdata, hTlen]
  obtain ⟨S, e, h1, h2, h3, h4⟩ := hrun
  have hcl : bClose (bTold S) = bTold S := by
    unfold bClose
    rw [if_neg (by show ¬ ((!S.over && S.e == 0) = true); rw [h1]; simp)]
  refine ⟨?_, ?_, ?_, ?_, ?_, ?_⟩
  all_goals rw [htl, e]
  · exact hTs
  · rw [hcl]; exact h1
  · rw [hcl]; exact h3
  · rw [hcl]
    refine ⟨gC gt0 ps, ?_, (gC_ok ps gt0 gt0_ok).1.fit, ?_, ?_⟩
    · show gathP (S.out ++ []) = _
      rw [List.append_nil, h4]
      unfold gathP
      rw [List.foldl_append, gath_chunks ps gt0 (fun p hp => (hmem p hp).1) rfl rfl rfl]
      have ho := (gC_ok ps gt0 gt0_ok).1
      rw [List.foldl_cons, List.foldl_nil]
      unfold gStep Gt.guard
      rw [if_neg (by rw [ho.o, ho.e]; simp)]
      rfl
    · apply ext_list
      rw [(gC_ok ps gt0 gt0_ok).2.2, hcat, hoff']
      show [] ++ _ = _
      rw [List.nil_append, List.take_of_length_le (by rw [← Lib.size_eq]; exact Nat.le_refl _)]
    · rw [(gC_ok ps gt0 gt0_ok).2.1, hsz, List.take_length]
      rfl
  · show S.out.length ≤ 1000
    rw [h4, List.length_append, outC_length]
    show 2 * ps.length + 1 ≤ 1000
    omega
  · rw [hcl]
    exact Nat.zero_le _
theorem ext_size0 {s : ByteArray} (h : s.size = 0) : s = ⟨#[]⟩ := by
  apply ext_list
  exact List.eq_nil_of_length_eq_zero (by rw [← Lib.size_eq]; exact h)
theorem nil_append_b (s : ByteArray) : (⟨#[]⟩ : ByteArray) ++ s = s := by
  apply ext_list
  simp
theorem gath_over : gathP [⟨4, 0, ⟨#[]⟩⟩] = { gt0 with over := true } := by kernel_rfl
theorem gath_data {s : ByteArray} (h : s.size ≠ 0) : gathP [⟨3, 0, s⟩, ⟨4, 0, ⟨#[]⟩⟩] = { ({ gt0 with body := s } : Gt) with over := true } := by
  have hne : s.toList.isEmpty = false := data_ne (by rw [← Lib.size_eq]; omega)
  have e1 : gStep gt0 ⟨3, 0, s⟩ = { gt0 with body := s } := by
    unfold gStep Gt.guard
    rw [if_neg (by decide)]
    unfold Gt.take
    simp only
    rw [if_neg (by decide), if_pos trivial, hne]
    show ({ gt0 with odd := false, body := ⟨#[]⟩ ++ s } : Gt) = _
    rw [nil_append_b]
    rfl
  unfold gathP
  rw [List.foldl_cons, e1]
  rfl
theorem gt_body (s : ByteArray) : GtFit { gt0 with body := s } := ⟨rfl, rfl, Or.inl rfl, fun i h => absurd h (Nat.not_lt_zero _)⟩
/-- What comes back of a body that is not in chunks. -/
structure Back1 (k n : Int) (s : ByteArray) : Prop where
  used : (bFeed ebM (bNew ebM k n) s.data.toList).2 = s.size
  over : (bClose (bTold (bFeed ebM (bNew ebM k n) s.data.toList).1)).over = true
  tr : (bClose (bTold (bFeed ebM (bNew ebM k n) s.data.toList).1)).tr = []
  g : gathP ((bFeed ebM (bNew ebM k n) s.data.toList).1.out ++ (bClose (bTold (bFeed ebM (bNew ebM k n) s.data.toList).1)).out) = { ({ gt0 with body := s } : Gt) with over := true }
  len : (bFeed ebM (bNew ebM k n) s.data.toList).1.out.length ≤ 1000
  len2 : (bClose (bTold (bFeed ebM (bNew ebM k n) s.data.toList).1)).out.length ≤ 1
theorem ebLim {n : Int} (hn : 0 ≤ n) : ¬ (n < 0 ∨ ebM.line < 0 ∨ 65536 < ebM.line ∨ ebM.head < 0 ∨ 65536 < ebM.head) := by
  show ¬ (n < 0 ∨ (100 : Int) < 0 ∨ 65536 < (100 : Int) ∨ (65536 : Int) < 0 ∨ 65536 < (65536 : Int))
  omega
theorem shut_back {k n : Int} {s : ByteArray} {S : BdS} (hn : bNew ebM k n = S.ends) (hS : S.out = [] ∧ S.tr = []) (hs : s.size = 0) : Back1 k n s := by
  have hf : bFeed ebM (bNew ebM k n) s.data.toList = (S.ends, 0) := by rw [hn]; exact bRun_stop (Or.inr rfl)
  have hc : bClose (bTold S.ends) = bTold S.ends := by unfold bClose; rw [if_neg (by show ¬ ((!true && S.e == 0) = true); simp)]
  have hs0 := ext_size0 hs
  refine ⟨?_, ?_, ?_, ?_, ?_, ?_⟩
  all_goals rw [hf]
  · exact hs.symm
  · rw [hc]; rfl
  · rw [hc]; exact hS.2
  · rw [hc]
    show gathP ((S.out ++ [⟨4, 0, ⟨#[]⟩⟩]) ++ []) = _
    rw [hS.1, List.append_nil, List.nil_append, gath_over, hs0]
    rfl
  · show (S.out ++ [_]).length ≤ 1000
    rw [hS.1]
    decide
  · rw [hc]
    exact Nat.zero_le _
theorem back_none (n : Int) (s : ByteArray) (hn : 0 ≤ n) (hs : s.size = 0) : Back1 0 n s := by
  refine shut_back (S := ⟨.nothing, n, ln0 ebM.line, [], [], false, false, 0, []⟩) ?_ ⟨rfl, rfl⟩ hs
  unfold bNew
  simp only
  rw [if_neg (ebLim hn), if_pos trivial]
theorem back_sized (n : Int) (s : ByteArray) (hn : 0 ≤ n) (hs : n = s.size) : Back1 1 n s := by
  by_cases h0 : n = 0
  · refine shut_back (S := ⟨.sized, n, ln0 ebM.line, [], [], false, false, 0, []⟩) ?_ ⟨rfl, rfl⟩ (by omega)
    unfold bNew
    simp only
    rw [if_neg (ebLim hn), if_neg (by decide), if_pos trivial, if_pos h0]
  · have hne : bNew ebM 1 n = ⟨.sized, n, ln0 ebM.line, [], [], false, false, 0, []⟩ := by
      unfold bNew
      simp only
      rw [if_neg (ebLim hn), if_neg (by decide), if_pos trivial, if_neg h0]
    have hL : s.data.toList.length = s.size := (Lib.size_eq s).symm
    have hxne : s.data.toList ≠ [] := by intro e; rw [e] at hL; simp at hL; omega
    have hst : bStep ebM ⟨.sized, n, ln0 ebM.line, [], [], false, false, 0, []⟩ s.data.toList = (⟨.sized, 0, ln0 ebM.line, [], [], false, true, 0, [⟨3, 0, s⟩, ⟨4, 0, ⟨#[]⟩⟩]⟩, s.size) := by
      have hm : min (s.data.toList.length : Int) n = s.size := by rw [hL]; omega
      unfold bStep BdS.some BdS.rest BdS.put
      simp only [hm, Int.toNat_natCast]
      rw [if_pos (by omega), List.take_of_length_le (by omega), hs, Int.sub_self]
      rfl
    have hf : bFeed ebM (bNew ebM 1 n) s.data.toList = (⟨.sized, 0, ln0 ebM.line, [], [], false, true, 0, [⟨3, 0, s⟩, ⟨4, 0, ⟨#[]⟩⟩]⟩, s.size) := by
      rw [hne]
      unfold bFeed
      rw [bRun_one hxne rfl hst rfl, bRun_stop (Or.inr rfl)]
      rfl
    refine ⟨?_, ?_, ?_, ?_, ?_, ?_⟩
    all_goals rw [hf]
    · rfl
    · rfl
    · exact gath_data (by omega)
    · show 2 ≤ 1000
      decide
    · exact Nat.zero_le _
theorem back_close (n : Int) (s : ByteArray) (hn : 0 ≤ n) : Back1 3 n s := by
  have hne : bNew ebM 3 n = ⟨.rest, n, ln0 ebM.line, [], [], true, false, 0, []⟩ := by
    unfold bNew
    simp only
    rw [if_neg (ebLim hn), if_neg (by decide), if_neg (by decide), if_neg (by decide), if_pos trivial]
  have hL : s.data.toList.length = s.size := (Lib.size_eq s).symm
  by_cases h0 : s.size = 0
  · have hx : s.data.toList = [] := List.eq_nil_of_length_eq_zero (by omega)
    have hf : bFeed ebM (bNew ebM 3 n) s.data.toList = (⟨.rest, n, ln0 ebM.line, [], [], true, false, 0, []⟩, 0) := by
      rw [hne]
      exact bRun_stop (Or.inl hx)
    have hs0 := ext_size0 h0
    refine ⟨?_, ?_, ?_, ?_, ?_, ?_⟩
    all_goals rw [hf]
    · exact h0.symm
    · rfl
    · rfl
    · show gathP [⟨4, 0, ⟨#[]⟩⟩] = _
      rw [gath_over, hs0]
      rfl
    · exact Nat.zero_le _
    · exact Nat.le_refl _
  · have hxne : s.data.toList ≠ [] := by intro e; rw [e] at hL; simp at hL; omega
    have hst : bStep ebM ⟨.rest, n, ln0 ebM.line, [], [], true, false, 0, []⟩ s.data.toList = (⟨.rest, n, ln0 ebM.line, [], [], true, false, 0, [⟨3, 0, s⟩]⟩, s.size) := by
      rw [bStep_rest rfl, hL]
      rfl
    have hf : bFeed ebM (bNew ebM 3 n) s.data.toList = (⟨.rest, n, ln0 ebM.line, [], [], true, false, 0, [⟨3, 0, s⟩]⟩, s.size) := by
      rw [hne]
      unfold bFeed
      rw [bRun_one hxne rfl hst rfl, bRun_stop (Or.inl (by rw [List.drop_eq_nil_iff]; omega))]
      rfl
    refine ⟨?_, ?_, ?_, ?_, ?_, ?_⟩
    all_goals rw [hf]
    · rfl
    · rfl
    · exact gath_data h0
    · show 1 ≤ 1000
      decide
    · exact Nat.le_refl _
end Go.Proofs.YtbglakhojbhfbaaGreatDoor
