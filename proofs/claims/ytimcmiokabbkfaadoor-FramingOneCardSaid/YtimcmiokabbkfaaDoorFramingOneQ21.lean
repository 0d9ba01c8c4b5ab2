/- Texts packed for one claim, 21 of 35: Wout WoutB WoutC. -/
import Derived.Test.YtimcmiokabbkfaaDoorFramingOneQ15
import Derived.Test.YtimcmiokabbkfaaDoorFramingOneQ20
import Derived.Laws.CopyOwn
import Derived.Laws.AppendOwnNone
import Derived.Lib.SliceRun
set_option linter.unusedSimpArgs false
set_option linter.unusedVariables false
-- Wout
namespace Go.Proofs.YtimcmiokabbkfaaDoor
open Go.RowKit
theorem flds_cells {w : World} {ad : Addr} {n c : Nat} {fs : List Fd} (h : Flds w (.slice (some ad) n c) fs) : ∀ j u, (flat fs)[j]? = some u → w.cell? (ad.add j) = some u := by
  intro j u hj
  obtain ⟨p, c', hv, hc⟩ := h
  have hjl : j < (flat fs).length := (List.getElem?_eq_some_iff.1 hj).1
  rw [flat_length] at hjl
  have hk : j / 2 < fs.length := by omega
  obtain ⟨b, off, hp, c1, c2⟩ := hc (j / 2) hk
  injection hv with hp2 _ _
  rw [← hp2] at hp
  injection hp with hp
  obtain ⟨a1, a2⟩ := flat_at fs (j / 2) hk
  rw [hp, addr_add]
  rcases Nat.mod_two_eq_zero_or_one j with e | e
  · rw [show 2 * (j / 2) = j by omega] at a1
    rw [show off + 2 * (j / 2) = off + j by omega] at c1
    rw [a1] at hj
    rw [c1]
    exact hj
  · rw [show 2 * (j / 2) + 1 = j by omega] at a2
    rw [show off + 2 * (j / 2) + 1 = off + j by omega] at c2
    rw [a2] at hj
    rw [c2]
    exact hj
theorem flds_none {w : World} {n c : Nat} {fs : List Fd} (h : Flds w (.slice none n c) fs) : fs = [] ∧ n = 0 := by
  obtain ⟨p, c', hv, hc⟩ := h
  injection hv with hp hn _
  cases fs with
  | nil => exact ⟨rfl, hn⟩
  | cons a l =>
    obtain ⟨b, off, hp2, _⟩ := hc 0 (by simp)
    rw [← hp] at hp2
    cases hp2
theorem flds_len {w : World} {p : Option Addr} {n c : Nat} {fs : List Fd} (h : Flds w (.slice p n c) fs) : n = fs.length := by
  obtain ⟨p', c', hv, _⟩ := h
  injection hv
theorem flat_one (fs : List Fd) : ∀ v ∈ flat fs, v.oneCell' = true := by
  intro v hv
  unfold flat at hv
  obtain ⟨x, _, hx⟩ := List.mem_flatMap.1 hv
  simp at hx
  rcases hx with rfl | rfl <;> rfl
/-- copy of fields into the beginning of a row. -/
theorem run_copy_flds {P : Program} (w : World) (T ty elem : TypeId) (g dLen dCap : Nat) (p : Option Addr) (sLen sCap : Nat) (cur : Array Value) (t : TypeId) (fs : List Fd)
    (hu : P.underlying T = some (.slice elem)) (hs : (P.info? elem).map (·.size) = some 2) (hg : w.heap[g]? = some (.cells cur t (0, 0))) (hle : sLen ≤ dLen) (hsrc : Flds w (.slice p sLen sCap) fs) (hfit : sLen * 2 ≤ cur.size) :
    (Builtin.copy_ #[T, T] ty #[.slice (some ⟨g, 0, none⟩) dLen dCap, .slice p sLen sCap]).run P w = .ok (goInt sLen) (w.setRow g (flat fs ++ cur.toList.drop (sLen * 2)).toArray) := by
  have hlen := flds_len hsrc
  cases hq : P.info? elem with
  | none => simp [hq] at hs
  | some i =>
    have hi : i.size = 2 := by simpa [hq] using hs
    cases p with
    | none =>
      obtain ⟨rfl, rfl⟩ := flds_none hsrc
      have e : (flat ([] : List Fd) ++ cur.toList.drop (0 * 2)).toArray = cur := by simp [flat]
      rw [e, setRow_self w g cur t (0, 0) hg]
      simp [Builtin.copy_, run_underlying hu, Builtin.lenOf, Builtin.firstCells, sizeOf, typeInfo, hq, hi, storeCells]
    | some ad =>
      have hl := run_loadCells_list (P := P) w ad (flat fs) (flds_cells hsrc)
      rw [flat_length, ← hlen] at hl
      have hst := run_storeCells_at P g 0 t (flat fs) 0 cur w hg (by rw [flat_length]; omega) (flat_one fs)
      rw [flat_length, ← hlen] at hst
      simp only [Nat.zero_add, List.take_zero, List.nil_append] at hst
      have hm : Nat.min sLen dLen = sLen := Nat.min_eq_left hle
      simp [Builtin.copy_, run_underlying hu, Builtin.lenOf, Builtin.firstCells, sizeOf, typeInfo, hq, hi, hm, hl, hst]
theorem wpList_copy_flds {P : Program} {w : World} {ops : Array Oper} {rest : List Oper} {o : Oper} {a : Act} {Q : Exit → Act → World → Prop} (hgd : o.guard = none) (d s : Operand) (T : TypeId)
    (ho : o.op = .call { callee := .builtin .copy, args := #[d, s], argTypes := #[T, T] }) (elem : TypeId) (hu : P.underlying T = some (.slice elem)) (hsz : (P.info? elem).map (·.size) = some 2)
    (g dLen dCap : Nat) (hd : a.eval d = .slice (some ⟨g, 0, none⟩) dLen dCap) (p : Option Addr) (sLen sCap : Nat) (hs : a.eval s = .slice p sLen sCap) (cur : Array Value) (t : TypeId) (hg : w.heap[g]? = some (.cells cur t (0, 0))) (fs : List Fd) (hle : sLen ≤ dLen)
    (hsrc : Flds w (.slice p sLen sCap) fs) (hfit : sLen * 2 ≤ cur.size)
    (h : wpList P ops Q rest (a.put o.dst (goInt sLen)) (w.setRow g (flat fs ++ cur.toList.drop (sLen * 2)).toArray)) : wpList P ops Q (o :: rest) a w := by
  refine wpList_plain hgd fun K hK => ?_
  have hrun := run_copy_flds (P := P) w T o.type elem g dLen dCap p sLen sCap cur t fs hu hsz hg hle hsrc hfit
  unfold Oper.wp
  simp [execOp, ho, resolve, invoke, builtin, hd, hs, hrun, Result.andThen]
  exact hK _ _ h
theorem zeroFlds (n : Nat) : (Builtin.zeroCells (Value.cells (.agg #[.string ⟨#[]⟩, .string ⟨#[]⟩])) n).toList = flat (List.replicate n (⟨#[]⟩, ⟨#[]⟩)) := made_flat n
/-- clear of fields that lie in a row. -/
theorem run_clear_flds {P : Program} (w : World) (T e ty : TypeId) (ht : P.underlying T = some (.slice e)) (hv : ∀ w, (zeroValue e).run P w = .ok (.agg #[.string ⟨#[]⟩, .string ⟨#[]⟩]) w) (g o n c : Nat) (hn : 0 < n) (cur : Array Value) (t : TypeId)
    (hg : w.heap[g]? = some (.cells cur t (0, 0))) (hfit : o + n * 2 ≤ cur.size) :
    (Builtin.clear_ #[T] ty #[.slice (some ⟨g, o, none⟩) n c]).run P w = .ok (.tuple #[]) (w.setRow g (cur.toList.take o ++ flat (List.replicate n (⟨#[]⟩, ⟨#[]⟩)) ++ cur.toList.drop (o + n * 2)).toArray) := by
  have hst := run_storeCells_at P g o t (flat (List.replicate n (⟨#[]⟩, ⟨#[]⟩))) 0 cur w hg (by rw [flat_length, List.length_replicate]; omega) (flat_one _)
  rw [flat_length, List.length_replicate] at hst
  simp only [Nat.add_zero] at hst
  obtain ⟨m, rfl⟩ : ∃ m, n = m + 1 := ⟨n - 1, by omega⟩
  have hz := zeroFlds (m + 1)
  simp [Builtin.clear_, run_underlying ht, hv]
  rw [hz, hst, List.append_assoc]
  rfl
/-- Is a field one of some names? -/
def delP (names : List ByteArray) (x : Fd) : Bool := names.any fun a => decide (lowB a = lowB x.1)
set_option maxRecDepth 100000 in
set_option maxHeartbeats 1000000 in
theorem indexN_any (q : ByteArray → Bool) (names : List ByteArray) (p : Option Addr) (n c g : Nat) (w : World) (hS : Strs w (.slice p n c) names) (hl : names.length ≤ 1000000)
    (H : ∀ a ∈ names, ∀ W, Below w.heap.size w W → Calls Tryd.prog 43 #[.string a, .pointer (some ⟨g, 0, none⟩)] W fun e w' => e = .returned (.bool (q a)) ∧ Below W.heap.size W w') :
    Calls Tryd.prog 57 #[.slice p n c, .func (.func 43) #[] #[.pointer (some ⟨g, 0, none⟩)]] w fun e w' => ∃ k : Int, e = .returned (.int .i64 k) ∧ ((names.any q = true ∧ 0 ≤ k) ∨ (names.any q = false ∧ k = -1)) ∧ Below w.heap.size w w' := by
  have HS := Lib.hid hS
  have HH := Lib.hid H
  obtain ⟨p', c', hv, hc⟩ := hS
  injection hv with e1 e2 e3
  subst e1 e3
  have HC := Lib.hid hc
  have HN := Lib.hid e2
  rw [← e2] at hl
  clear hc H e2 HS
  go_enter Tryd.func57, Tryd.ntmps57
  go_wp2_with fail
  go_loopw [8] (fun i wr => ∃ k : Nat, k ≤ n ∧ i = .int .i64 k ∧ (names.take k).any q = false ∧ Below w.heap.size w wr) (fun i _ => n - (intOf i).toNat)
  case atStart => exact ⟨0, Nat.zero_le _, rfl, by simp, Below.refl _ _⟩
  case round =>
    obtain ⟨k, hk, rfl, hp, hb⟩ := hrel
    have HB := Lib.hid hb
    have HP := Lib.hid hp
    clear hb hp
    by_cases hlt : k < n
    · have hk1 : decide ((k : Int) < (n : Int)) = true := decide_eq_true (by omega)
      obtain ⟨b, off, hp, c0⟩ := HC.out k (by rw [← HN.out]; exact hlt)
      subst hp
      obtain ⟨a, ha⟩ : ∃ a, a = names[k]'(by rw [← HN.out]; exact hlt) := ⟨_, rfl⟩
      rw [← ha] at c0
      have hblt := World.block_lt_of_cell? w _ c0
      have c0 := ((bcell HB.out) b _ hblt).trans c0
      have ham : a ∈ names := by rw [ha]; exact List.getElem_mem _
      have HT : Hid ((names.take (k + 1)).any q = ((names.take k).any q || q a)) := by
        show _ = _
        rw [List.take_succ_eq_append_getElem (by rw [← HN.out]; exact hlt), List.any_append, ← ha]
        simp
      have HQ := Lib.hid (HH.out a ham wr HB.out)
      have HAM := Lib.hid ham
      obtain ⟨v, hv⟩ : ∃ v, v = q a := ⟨_, rfl⟩
      have HV := Lib.hid hv
      rw [← hv] at HQ HT
      have hk0 : (0 : Int) ≤ (k : Int) := by omega
      have hki : (k : Int) < (n : Int) := by omega
      clear ha hblt ham hv
      cases v with
      | true =>
        go_wp2_with (go_at_call 43; refine HQ.out.mono ?_; rintro e' w' ⟨rfl, hb⟩; have HB' := Lib.hid (HB.out.trans (hb.mono HB.out.size)); clear hb)
        go_ret
        exact ⟨_, rfl, Or.inl ⟨List.any_eq_true.2 ⟨a, HAM.out, HV.out.symm⟩, by omega⟩, HB'.out⟩
      | false =>
        go_wp2_with (go_at_call 43; refine HQ.out.mono ?_; rintro e' w' ⟨rfl, hb⟩; have HB' := Lib.hid (HB.out.trans (hb.mono HB.out.size)); clear hb)
        go_roundw
        case rel => exact ⟨k + 1, hlt, by go_num, by rw [HT.out, HP.out]; rfl, HB'.out⟩
        case measure => simp [intOf]; omega
    · have hk1 : decide ((k : Int) < (n : Int)) = false := decide_eq_false (by omega)
      have hkn : k = n := by omega
      have HF : Hid (names.any q = false) := by
        show _ = _
        have := HP.out
        rw [hkn, HN.out, List.take_length] at this
        exact this
      clear hkn
      go_wp2_with fail
      go_ret
      exact ⟨_, rfl, Or.inr ⟨HF.out, rfl⟩, HB.out⟩
set_option maxRecDepth 100000 in
set_option maxHeartbeats 1000000 in
theorem containsN_any (q : ByteArray → Bool) (names : List ByteArray) (p : Option Addr) (n c g : Nat) (w : World) (hS : Strs w (.slice p n c) names) (hl : names.length ≤ 1000000)
    (H : ∀ a ∈ names, ∀ W, Below w.heap.size w W → Calls Tryd.prog 43 #[.string a, .pointer (some ⟨g, 0, none⟩)] W fun e w' => e = .returned (.bool (q a)) ∧ Below W.heap.size W w') :
    Calls Tryd.prog 42 #[.slice p n c, .func (.func 43) #[] #[.pointer (some ⟨g, 0, none⟩)]] w fun e w' => e = .returned (.bool (names.any q)) ∧ Below w.heap.size w w' := by
  have HI := Lib.hid (indexN_any q names p n c g w hS hl H)
  clear hS hl H
  go_enter Tryd.func42, Tryd.ntmps42
  go_wp2_with fail
  refine HI.out.mono ?_
  rintro e' w' ⟨k, rfl, hk, hb⟩
  have HB := Lib.hid hb
  have hd : Hid (names.any q = decide (0 ≤ k)) := by
    show _ = _
    rcases hk with ⟨h1, h2⟩ | ⟨h1, h2⟩
    · rw [h1, decide_eq_true h2]
    · rw [h1, h2]; rfl
  clear hb hk
  go_wp2_with fail
  go_ret
  rw [hd.out]
  exact ⟨rfl, HB.out⟩
set_option maxRecDepth 100000 in
set_option maxHeartbeats 1000000 in
theorem isN_any (names : List ByteArray) (x : Fd) (p : Option Addr) (n c b2 : Nat) (w : World) (hx : x.1.size ≤ 1000000) (hs : ∀ a ∈ names, a.size ≤ 1000000) (hl : names.length ≤ 1000000) (hS : Strs w (.slice p n c) names) (h2 : w.cell? ⟨b2, 0, none⟩ = some (.slice p n c)) :
    Calls Tryd.prog 41 #[.agg #[.string x.1, .string x.2], .pointer (some ⟨b2, 0, none⟩)] w fun e w' => e = .returned (.bool (delP names x)) ∧ Below w.heap.size w w' := by
  obtain ⟨x1, x2⟩ := x
  have hb2 := World.block_lt_of_cell? w _ h2
  have HBW := Lib.hid ((Below.refl w.heap.size w).alloc (Nat.le_refl _) (.cells #[.string x1, .string x2] 56))
  have HK := Lib.hid (Blk.new w #[.string x1, .string x2] 56)
  have c2 := ((bcell HBW.out) b2 0 hb2).trans h2
  have HCF := Lib.hid (containsN_any (fun a => decide (lowB a = lowB x1)) names p n c w.heap.size (w.alloc (.cells #[.string x1, .string x2] 56)) (hS.below HBW.out) hl (fun a ha W hW => named11_any a x1 x2 w.heap.size W (hs a ha) hx (HK.out.call hW)))
  have hp0 : delP names (x1, x2) = names.any (fun a => decide (lowB a = lowB x1)) := rfl
  rw [hp0]
  obtain ⟨q, hq⟩ : ∃ q, q = names.any (fun a => decide (lowB a = lowB x1)) := ⟨_, rfl⟩
  rw [← hq] at HCF ⊢
  clear h2 hq hb2 hS hp0
  dsimp only
  go_enter Tryd.func41, Tryd.ntmps41
  go_wp2_with (go_at_call 42; refine HCF.out.mono ?_; rintro e' w' ⟨rfl, hb⟩; have HB := Lib.hid (below_one hb); clear hb)
  go_ret
  exact ⟨rfl, HB.out⟩
end Go.Proofs.YtimcmiokabbkfaaDoor
-- WoutB
namespace Go.Proofs.YtimcmiokabbkfaaDoor
open Go.RowKit
theorem take_any_false {p : Fd → Bool} {fs : List Fd} {k : Nat} (h : (fs.take k).any p = false) : ∀ x ∈ fs.take k, p x = false := by
  intro x hx
  rw [List.any_eq_false] at h
  have := h x hx
  simpa using this
theorem filter_none {p : Fd → Bool} {l : List Fd} (h : l.any p = false) : l.filter (fun x => !p x) = l := by
  rw [List.filter_eq_self]
  intro x hx
  rw [List.any_eq_false] at h
  have := h x hx
  simpa using this
set_option maxRecDepth 100000 in
set_option maxHeartbeats 1000000 in
theorem indexF_any (q : Fd → Bool) (fs : List Fd) (v : Value) (b2 : Nat) (w : World) (hF : Flds w v fs) (hl : fs.length ≤ 1000000)
    (H : ∀ x ∈ fs, ∀ W, Below w.heap.size w W → Calls Tryd.prog 41 #[.agg #[.string x.1, .string x.2], .pointer (some ⟨b2, 0, none⟩)] W fun e w' => e = .returned (.bool (q x)) ∧ Below W.heap.size W w') :
    Calls Tryd.prog 40 #[v, .func (.func 41) #[] #[.pointer (some ⟨b2, 0, none⟩)]] w fun e w' => ∃ k : Int, e = .returned (.int .i64 k) ∧ ((fs.any q = false ∧ k = -1) ∨ ∃ (i : Nat) (x : Fd), k = i ∧ fs[i]? = some x ∧ q x = true ∧ (fs.take i).any q = false) ∧ Below w.heap.size w w' := by
  obtain ⟨p, c, rfl, hc⟩ := hF
  have HH := Lib.hid H
  have HC := Lib.hid hc
  obtain ⟨n, hnl⟩ : ∃ n, n = fs.length := ⟨_, rfl⟩
  have HN := Lib.hid hnl
  rw [← hnl] at hl ⊢
  clear hc H hnl
  go_enter Tryd.func40, Tryd.ntmps40
  go_wp2_with fail
  go_loopw [8] (fun i wr => ∃ k : Nat, k ≤ n ∧ i = .int .i64 k ∧ (fs.take k).any q = false ∧ Below w.heap.size w wr) (fun i _ => n - (intOf i).toNat)
  case atStart => exact ⟨0, Nat.zero_le _, rfl, by simp, Below.refl _ _⟩
  case round =>
    obtain ⟨k, hk, rfl, hp, hb⟩ := hrel
    have HB := Lib.hid hb
    have HP := Lib.hid hp
    clear hb hp
    by_cases hlt : k < n
    · have hk1 : decide ((k : Int) < (n : Int)) = true := decide_eq_true (by omega)
      obtain ⟨b, off, hp, c1, c2⟩ := HC.out k (by rw [← HN.out]; exact hlt)
      subst hp
      obtain ⟨x, hx⟩ : ∃ x, x = fs[k]'(by rw [← HN.out]; exact hlt) := ⟨_, rfl⟩
      rw [← hx] at c1 c2
      have hblt := World.block_lt_of_cell? w _ c1
      have c1 := ((bcell HB.out) b _ hblt).trans c1
      have c2 := ((bcell HB.out) b _ hblt).trans c2
      rw [show off + 2 * k = off + k * 2 by omega] at c1 c2
      have hxm : x ∈ fs := by rw [hx]; exact List.getElem_mem _
      have HT : Hid ((fs.take (k + 1)).any q = ((fs.take k).any q || q x)) := by
        show _ = _
        rw [List.take_succ_eq_append_getElem (by rw [← HN.out]; exact hlt), List.any_append, ← hx]
        simp
      have HQ := Lib.hid (HH.out x hxm wr HB.out)
      have HXQ := Lib.hid hx
      obtain ⟨v, hv⟩ : ∃ v, v = q x := ⟨_, rfl⟩
      have HV := Lib.hid hv
      rw [← hv] at HQ HT
      obtain ⟨x1, x2⟩ := x
      dsimp only at c1 c2 HQ
      have hk0 : (0 : Int) ≤ (k : Int) := by omega
      have hki : (k : Int) < (n : Int) := by omega
      clear hx hblt hxm hv
      cases v with
      | true =>
        go_wp2_with (go_at_call 41; refine HQ.out.mono ?_; rintro e' w' ⟨rfl, hb⟩; have HB' := Lib.hid (HB.out.trans (hb.mono HB.out.size)); clear hb)
        go_ret
        exact ⟨_, rfl, Or.inr ⟨k, (x1, x2), rfl, by rw [HXQ.out]; exact List.getElem?_eq_getElem _, HV.out.symm, HP.out⟩, HB'.out⟩
      | false =>
        go_wp2_with (go_at_call 41; refine HQ.out.mono ?_; rintro e' w' ⟨rfl, hb⟩; have HB' := Lib.hid (HB.out.trans (hb.mono HB.out.size)); clear hb)
        go_roundw
        case rel => exact ⟨k + 1, hlt, by go_num, by rw [HT.out, HP.out]; rfl, HB'.out⟩
        case measure => simp [intOf]; omega
    · have hk1 : decide ((k : Int) < (n : Int)) = false := decide_eq_false (by omega)
      have hkn : k = n := by omega
      have HF : Hid (fs.any q = false) := by
        show _ = _
        have := HP.out
        rw [hkn, HN.out, List.take_length] at this
        exact this
      clear hkn
      go_wp2_with fail
      go_ret
      exact ⟨_, rfl, Or.inl ⟨HF.out, rfl⟩, HB.out⟩
set_option maxRecDepth 100000 in
set_option maxHeartbeats 1000000 in
theorem cloneF_any (fs : List Fd) (v : Value) (w : World) (hF : Flds w v fs) (hl : fs.length ≤ 1000000) :
    Calls Tryd.prog 21 #[v] w fun e w' => ∃ v', e = .returned v' ∧ OwnF w' w.heap.size v' fs ∧ Below w.heap.size w w' := by
  obtain ⟨i0, hi, hz0, hz1, hz2⟩ := info_parts info_field
  have HF := Lib.hid hF
  obtain ⟨p, c, rfl, hc⟩ := hF
  cases p with
  | none =>
    have h0 := flds_none HF.out
    have h00 := h0.2
    have H0 := Lib.hid h0
    clear hc h0 HF
    rw [h00]
    clear h00
    have heq : ∀ W : World, (binOp .eql 22 (.slice none 0 c) (.slice none 0 0)).run Tryd.prog W = .ok (.bool true) W := fun W => Lib.run_eql_slice_nil W _ _ none 0 c 0 0 Tryd.underlying22
    go_enter Tryd.func21, Tryd.ntmps21
    go_wp2_with fail
    go_ret
    rw [H0.out.1]
    exact ⟨_, rfl, OwnF.start _ _, Below.refl _ _⟩
  | some ad =>
    have HE := Lib.hid (OwnF.empty w)
    have HC := Lib.hid (flds_cells (HF.out.below ((Below.refl w.heap.size w).alloc (Nat.le_refl _) (.cells #[] 56))))
    obtain ⟨n, hnl⟩ : ∃ n, n = fs.length := ⟨_, rfl⟩
    have HN := Lib.hid hnl
    rw [← hnl] at hl ⊢
    have heq : ∀ W : World, (binOp .eql 22 (.slice (some ad) n c) (.slice none 0 0)).run Tryd.prog W = .ok (.bool false) W := fun W => Lib.run_eql_slice_nil W _ _ (some ad) n c 0 0 Tryd.underlying22
    clear hc HF hnl
    go_enter Tryd.func21, Tryd.ntmps21
    go_wp2_with (at_builtin; refine wpList_append_own _ rfl _ _ 22 rfl w.heap.size 56 i0 _ 2 32 Tryd.underlying22 hi hz0 hz1 hz2 rfl (by decide) _ 0 (flat []) rfl HE.out ad n c (flat fs) rfl ?c0 ?c1 ?c2 ?c3 ?c4 ?c5 ?_)
    case c0 => rw [flat_length, HN.out]
    case c1 => exact HC.out
    case c2 => exact flat_one fs
    case c3 => unfold maxLen; omega
    case c4 => omega
    case c5 => simp
    intro v' w1 hown1 hg _
    have HO : Hid (OwnF w1 w.heap.size v' fs) := by
      show w1.ownsRow _ _ _ _ fs.length (flat fs)
      have h := hown1
      rw [HN.out] at h
      exact h
    have HB := Lib.hid (((Below.refl w.heap.size w).alloc (Nat.le_refl _) (.cells #[] 56)).grown hg (by simp) (fun j hj => by cases hj; exact Nat.le_refl _))
    clear hown1 hg
    go_wp2_with fail
    go_ret
    exact ⟨_, rfl, HO.out, HB.out⟩
theorem owns_cut {w : World} {B g n cap i : Nat} {l : List Fd} (h : OwnF w B (.slice (some ⟨g, 0, none⟩) n cap) l) (hn : n = l.length) (hi : i ≤ n) : OwnF w B (.slice (some ⟨g, 0, none⟩) i cap) (l.take i) := by
  subst hn
  obtain ⟨h1, h2⟩ := h
  rcases h2 with ⟨h2, _⟩ | ⟨g', cap', cur, hv, hB, hg, a1, a2, a3, a4⟩
  · cases h2
  · injection hv with e1 e2 e3
    injection e1 with e1
    injection e1 with e1
    subst e1 e3
    have hlt : (l.take i).length = i := by rw [List.length_take]; omega
    have hfl : flat (l.take i) = (flat l).take (i * 2) := by
      have e := List.take_append_drop i l
      have e2 : flat l = flat (l.take i) ++ flat (l.drop i) := by rw [← flat_append, e]
      rw [e2, List.take_append_of_le_length (by rw [flat_length, hlt]; omega), List.take_of_length_le (l := flat (l.take i)) (by rw [flat_length, hlt]; omega)]
    refine ⟨flat_length _, Or.inr ⟨g, cap, cur, by rw [hlt], hB, hg, by rw [hlt]; omega, a2, a3, ?_⟩⟩
    rw [hlt, hfl, ← a4, List.take_take, Nat.min_eq_left (by omega)]
end Go.Proofs.YtimcmiokabbkfaaDoor
-- WoutC
namespace Go.Proofs.YtimcmiokabbkfaaDoor
open Go.RowKit
theorem ownF_row {w : World} {B g n cap : Nat} {l : List Fd} (h : OwnF w B (.slice (some ⟨g, 0, none⟩) n cap) l) (hn : n = l.length) : ∃ cur, w.heap[g]? = some (.cells cur 56 (0, 0)) ∧ B ≤ g ∧ n ≤ cap ∧ cap ≤ maxLen ∧ cur.size = cap * 2 ∧ cur.toList.take (n * 2) = flat l := by
  subst hn
  obtain ⟨h1, h2⟩ := h
  rcases h2 with ⟨h2, _⟩ | ⟨g', cap', cur, hv, hB, hg, a1, a2, a3, a4⟩
  · cases h2
  · injection hv with e1 e2 e3
    injection e1 with e1
    injection e1 with e1
    subst e1 e3
    exact ⟨cur, hg, hB, a1, a2, a3, a4⟩
theorem ownF_mk {w : World} {B g n cap : Nat} {l : List Fd} {cur : Array Value} (hn : n = l.length) (hg : w.heap[g]? = some (.cells cur 56 (0, 0))) (hB : B ≤ g) (h1 : n ≤ cap) (h2 : cap ≤ maxLen) (h3 : cur.size = cap * 2) (h4 : cur.toList.take (n * 2) = flat l) : OwnF w B (.slice (some ⟨g, 0, none⟩) n cap) l := by
  subst hn
  exact ⟨flat_length l, Or.inr ⟨g, cap, cur, rfl, hB, hg, h1, h2, h3, h4⟩⟩
theorem ownF_at {w : World} {B g n cap : Nat} {l : List Fd} (h : OwnF w B (.slice (some ⟨g, 0, none⟩) n cap) l) (hn : n = l.length) {j : Nat} {x : Fd} (hx : l[j]? = some x) : w.cell? ⟨g, j * 2, none⟩ = some (.string x.1) ∧ w.cell? ⟨g, j * 2 + 1, none⟩ = some (.string x.2) := by
  subst hn
  obtain ⟨hj, rfl⟩ := List.getElem?_eq_some_iff.1 hx
  have h1 := World.ownsRow.cellAt h (j * 2) (by omega)
  have h2 := World.ownsRow.cellAt h (j * 2 + 1) (by omega)
  obtain ⟨a1, a2⟩ := flat_at l j hj
  rw [Nat.mul_comm] at a1 a2
  exact ⟨h1.trans a1, h2.trans a2⟩
/-- What the loop of DeleteFunc holds: j fields seen, i of them kept, L the row. -/
def DelI (q : Fd → Bool) (fs L : List Fd) (i j : Nat) : Prop := L.length = fs.length ∧ i < j ∧ j ≤ fs.length ∧ L.take i = (fs.take j).filter (fun x => !q x) ∧ ∀ m, j ≤ m → L[m]? = fs[m]?
theorem DelI.start {q : Fd → Bool} {fs : List Fd} {i : Nat} {x : Fd} (hx : fs[i]? = some x) (hq : q x = true) (h : (fs.take i).any q = false) : DelI q fs fs i (i + 1) := by
  obtain ⟨hi, rfl⟩ := List.getElem?_eq_some_iff.1 hx
  refine ⟨rfl, Nat.lt_succ_self _, hi, ?_, fun _ _ => rfl⟩
  rw [List.take_succ_eq_append_getElem hi, List.filter_append, filter_none h]
  simp [hq]
theorem DelI.drop {q : Fd → Bool} {fs L : List Fd} {i j : Nat} {x : Fd} (h : DelI q fs L i j) (hx : fs[j]? = some x) (hq : q x = true) : DelI q fs L i (j + 1) := by
  obtain ⟨h1, h2, h3, h4, h5⟩ := h
  obtain ⟨hi, rfl⟩ := List.getElem?_eq_some_iff.1 hx
  refine ⟨h1, by omega, hi, ?_, fun m hm => h5 m (by omega)⟩
  rw [List.take_succ_eq_append_getElem hi, List.filter_append, ← h4]
  simp [hq]
theorem DelI.keep {q : Fd → Bool} {fs L : List Fd} {i j : Nat} {x : Fd} (h : DelI q fs L i j) (hx : fs[j]? = some x) (hq : q x = false) : DelI q fs (L.set i x) (i + 1) (j + 1) := by
  obtain ⟨h1, h2, h3, h4, h5⟩ := h
  obtain ⟨hi, rfl⟩ := List.getElem?_eq_some_iff.1 hx
  refine ⟨by rw [List.length_set]; exact h1, by omega, hi, ?_, fun m hm => ?_⟩
  · rw [List.take_succ_eq_append_getElem hi, List.filter_append, ← h4]
    rw [List.take_succ_eq_append_getElem (by rw [List.length_set]; omega), List.getElem_set_self, List.take_set_of_le (Nat.le_refl _)]
    simp [hq]
  · rw [List.getElem?_set_ne (by omega), h5 m (by omega)]
set_option maxRecDepth 100000 in
set_option maxHeartbeats 4000000 in
theorem deleteF_any (q : Fd → Bool) (fs : List Fd) (v : Value) (b2 B : Nat) (w : World) (hO : OwnF w B v fs) (hl : fs.length ≤ 1000000) (hB : B ≤ w.heap.size)
    (H : ∀ x ∈ fs, ∀ W, Touch (fun k => v.ownBlock = some k) w W → Calls Tryd.prog 41 #[.agg #[.string x.1, .string x.2], .pointer (some ⟨b2, 0, none⟩)] W fun e w' => e = .returned (.bool (q x)) ∧ Below W.heap.size W w') :
    Calls Tryd.prog 20 #[v, .func (.func 41) #[] #[.pointer (some ⟨b2, 0, none⟩)]] w fun e w' => ∃ v', e = .returned v' ∧ OwnF w' B v' (fs.filter (fun x => !q x)) ∧ Touch (fun k => v.ownBlock = some k) w w' := by
  have HI := Lib.hid (indexF_any q fs v b2 w hO.flds hl (fun x hx W hW => H x hx W (Touch.of_below hW)))
  have HO := Lib.hid hO
  have HH := Lib.hid H
  obtain ⟨p, c, rfl, _⟩ := hO.flds
  clear H hO
  go_enter Tryd.func20, Tryd.ntmps20
  go_wp2_with fail
  refine HI.out.mono ?_
  rintro e1 w1 ⟨k, rfl, hk, hb⟩
  have HB1 := Lib.hid (Touch.of_below (P := fun k => (Value.slice p fs.length c).ownBlock = some k) hb)
  have HO1 := Lib.hid (HO.out.call hb)
  clear hb
  rcases hk with ⟨h1, rfl⟩ | ⟨i, x, rfl, hx, hq, h1⟩
  · have HF : Hid (fs.filter (fun x => !q x) = fs) := filter_none h1
    clear h1
    go_wp2_with fail
    go_ret
    rw [HF.out]
    exact ⟨_, rfl, HO1.out, HB1.out⟩
  · have HD0 := Lib.hid (DelI.start hx hq h1)
    have hi : i < fs.length := (List.getElem?_eq_some_iff.1 hx).1
    obtain ⟨n, hnl⟩ : ∃ n, n = fs.length := ⟨_, rfl⟩
    have HN := Lib.hid hnl
    rw [← hnl] at hl hi HO1 HB1 HH ⊢
    obtain ⟨g, rfl⟩ : ∃ g, p = some ⟨g, 0, none⟩ := by
      obtain ⟨_, h2⟩ := HO1.out
      rcases h2 with ⟨h2, h3⟩ | ⟨g', cap', cur, hv, _⟩
      · exfalso; omega
      · injection hv with e1 _ _
        exact ⟨g', e1⟩
    have him : ((i : Int) == -1) = false := by rw [beq_eq_false_iff_ne]; omega
    clear hx hq h1 hnl
    go_wp2_with fail
    go_loopw [5, 6] (fun u5 u6 wr => ∃ (i j : Nat) (L : List Fd), u5 = .int .i64 i ∧ u6 = .int .i64 j ∧ DelI q fs L i j ∧ OwnF wr B (.slice (some ⟨g, 0, none⟩) n c) L ∧ Touch (fun k => (Value.slice (some ⟨g, 0, none⟩) n c).ownBlock = some k) w wr ∧ B ≤ wr.heap.size) (fun _ u6 _ => n - (intOf u6).toNat)
    case atStart => exact ⟨i, i + 1, fs, rfl, by go_num, HD0.out, HO1.out, HB1.out, Nat.le_trans hB HB1.out.size⟩
    case round =>
      obtain ⟨i, j, L, rfl, rfl, hd, ho, hb, hbs⟩ := hrel
      have HD := Lib.hid hd
      have HO2 := Lib.hid ho
      have HB2 := Lib.hid hb
      have hij := hd.2.1
      have hjn : j ≤ n := by rw [HN.out]; exact hd.2.2.1
      have HLL : Hid (n = L.length) := HN.out.trans hd.1.symm
      have HAT := Lib.hid (hd.2.2.2.2)
      clear hd ho hb
      by_cases hlt : j < n
      · obtain ⟨x, hx⟩ : ∃ x, fs[j]? = some x := ⟨_, List.getElem?_eq_getElem (by rw [← HN.out]; exact hlt)⟩
        have hxL : L[j]? = some x := (HAT.out j (Nat.le_refl _)).trans hx
        obtain ⟨c1, c2⟩ := ownF_at HO2.out HLL.out hxL
        have hxm : x ∈ fs := List.mem_of_getElem? hx
        have HX := Lib.hid hx
        obtain ⟨x1, x2⟩ := x
        dsimp only at c1 c2
        have HAL := Lib.hid (HB2.out.alloc (.cells #[.string x1, .string x2] 56))
        have HAZ : Hid (B ≤ (wr.alloc (.cells #[.string x1, .string x2] 56)).heap.size) := (by show _ ≤ _; simp; omega)
        have HQ := Lib.hid (HH.out (x1, x2) hxm (wr.alloc (.cells #[.string x1, .string x2] 56)) HAL.out)
        dsimp only at HQ
        have HKX := Lib.hid (Blk.new wr #[.string x1, .string x2] 56)
        obtain ⟨u, hu⟩ : ∃ u, u = q (x1, x2) := ⟨_, rfl⟩
        have HU := Lib.hid hu
        rw [← hu] at HQ
        have hj0 : (0 : Int) ≤ (j : Int) := by omega
        have hjn2 : (j : Int) < (n : Int) := by omega
        have hi0 : (0 : Int) ≤ (i : Int) := by omega
        have hin2 : (i : Int) < (n : Int) := by omega
        have hjlt : decide ((j : Int) < (n : Int)) = true := decide_eq_true (by omega)
        clear hx hxL hxm hu
        cases u with
        | true =>
          go_wp2_with (go_at_call 41; refine HQ.out.mono ?_; rintro e3 w3 ⟨rfl, hb3⟩; have HO3 := Lib.hid ((HO2.out.alloc (.cells #[.string x1, .string x2] 56)).call hb3); have HB3 := Lib.hid (HAL.out.trans (Touch.of_below hb3)); have HZ3 := Lib.hid (Nat.le_trans HAZ.out hb3.size); clear hb3)
          go_roundw
          case rel => exact ⟨i, j + 1, L, rfl, by go_num, HD.out.drop HX.out HU.out.symm, HO3.out, HB3.out, HZ3.out⟩
          case measure => simp [intOf]; omega
        | false =>
          obtain ⟨y, hy⟩ : ∃ y, L[i]? = some y := ⟨_, List.getElem?_eq_getElem (by rw [← HLL.out]; omega)⟩
          have HY := Lib.hid hy
          clear hy
          go_wp2_with (go_at_call 41; refine HQ.out.mono ?_; rintro e3 w3 ⟨rfl, hb3⟩; have HO3 := Lib.hid ((HO2.out.alloc (.cells #[.string x1, .string x2] 56)).call hb3); have HB3 := Lib.hid (HAL.out.trans (Touch.of_below hb3)); have HZ3 := Lib.hid (Nat.le_trans HAZ.out hb3.size); have K3 := Lib.hid (HKX.out.call hb3); have k0 := K3.out.cell 0; have k1 := K3.out.cell 1; simp at k0 k1; have r01 := ownF_at HO3.out HLL.out HY.out; have r0 := r01.1; have r1 := r01.2; clear r01; have z0 := OwnF.froz HLL.out HO3.out (i * 2); have z1 := OwnF.froz HLL.out HO3.out (i * 2 + 1); clear hb3)
          go_roundw
          case rel => exact ⟨i + 1, j + 1, L.set i (x1, x2), by go_num, by go_num, HD.out.keep HX.out HU.out.symm, OwnF.set HLL.out HO3.out i (by rw [← HLL.out]; omega) (x1, x2), (HB3.out.setCell (p := ⟨g, i * 2, none⟩) rfl _).setCell (p := ⟨g, i * 2 + 1, none⟩) rfl _, by simp; exact HZ3.out⟩
          case measure => simp [intOf]; omega
      · have hjn3 : j = n := by omega
        have hjlt : decide ((j : Int) < (n : Int)) = false := decide_eq_false (by omega)
        obtain ⟨cur, hg, hBg, hnc, hcm, hcs, hct⟩ := ownF_row HO2.out HLL.out
        have hic : i ≤ c := by omega
        have hin : i ≤ n := by omega
        have hcl : ∀ ty, (Builtin.clear_ #[22] ty #[.slice (some ⟨g, i * 2, none⟩) (n - i) (c - i)]).run Tryd.prog wr = .ok (.tuple #[]) (wr.setRow g (cur.toList.take (i * 2) ++ flat (List.replicate (n - i) (⟨#[]⟩, ⟨#[]⟩)) ++ cur.toList.drop (i * 2 + (n - i) * 2)).toArray) :=
          fun ty => run_clear_flds wr _ 56 ty Tryd.underlying22 (fun W => by kernel_rfl) g (i * 2) (n - i) (c - i) (by omega) cur _ hg (by omega)
        have HFin : Hid (OwnF (wr.setRow g (cur.toList.take (i * 2) ++ flat (List.replicate (n - i) (⟨#[]⟩, ⟨#[]⟩)) ++ cur.toList.drop (i * 2 + (n - i) * 2)).toArray) B (.slice (some ⟨g, 0, none⟩) i c) (fs.filter (fun x => !q x)) ∧ Touch (fun k => (Value.slice (some ⟨g, 0, none⟩) n c).ownBlock = some k) w (wr.setRow g (cur.toList.take (i * 2) ++ flat (List.replicate (n - i) (⟨#[]⟩, ⟨#[]⟩)) ++ cur.toList.drop (i * 2 + (n - i) * 2)).toArray)) := by
          have hD := HD.out
          have hti : L.take i = fs.filter (fun x => !q x) := by
            have := hD.2.2.2.1
            rw [hjn3, HN.out, List.take_length] at this
            exact this
          have hfl : (fs.filter (fun x => !q x)).length = i := by
            rw [← hti, List.length_take, ← HLL.out]
            omega
          have hcl2 : cur.toList.length = c * 2 := by rw [← hcs]; rfl
          refine ⟨ownF_mk hfl.symm (setRow_heap wr g cur _ _ _ hg) hBg hic hcm ?_ ?_, HB2.out.setRow rfl _⟩
          · simp [flat_length]
            omega
          · have h1 : cur.toList.take (i * 2) = flat (fs.filter (fun x => !q x)) := by
              have e := List.take_append_drop i L
              have e2 : flat L = flat (L.take i) ++ flat (L.drop i) := by rw [← flat_append, e]
              have e3 : cur.toList.take (i * 2) = (flat L).take (i * 2) := by rw [← hct, List.take_take, Nat.min_eq_left (by omega)]
              rw [e3, e2, hti, List.take_append_of_le_length (by rw [flat_length, hfl]; omega), List.take_of_length_le (l := flat (fs.filter (fun x => !q x))) (by rw [flat_length, hfl]; omega)]
            have h2 : (cur.toList.take (i * 2)).length = i * 2 := by rw [List.length_take]; omega
            show List.take (i * 2) (cur.toList.take (i * 2) ++ _ ++ _) = _
            rw [List.append_assoc, List.take_append_of_le_length (by rw [h2]; omega), List.take_of_length_le (by rw [h2]; omega), h1]
        clear hjn3 hg hct hcs
        go_wp2_with fail
        go_ret
        have hfin := HFin.out
        rw [List.append_assoc] at hfin
        exact ⟨_, rfl, hfin.1, hfin.2⟩
set_option maxRecDepth 100000 in
set_option maxHeartbeats 1000000 in
theorem without_any (fs : List Fd) (f nv : Value) (names : List ByteArray) (w : World) (hF : Flds w f fs) (hS : Strs w nv names) (hl : fs.length ≤ 1000000) (hs : ∀ x ∈ fs, x.1.size ≤ 1000000) (hn : ∀ a ∈ names, a.size ≤ 1000000) (hnl : names.length ≤ 1000000) :
    Calls Tryd.prog 7 #[f, nv] w fun e w' => ∃ v', e = .returned v' ∧ OwnF w' w.heap.size v' (fs.filter (fun x => !delP names x)) ∧ Below w.heap.size w w' := by
  have HC := Lib.hid (cloneF_any fs f w hF hl)
  have HS := Lib.hid hS
  obtain ⟨p, c, rfl, _⟩ := hS
  have HD := Lib.hid (fun (v : Value) (W : World) (B : Nat) (hO : OwnF W B v fs) (hB : B ≤ W.heap.size) (b2 : Nat) (hb2 : W.cell? ⟨b2, 0, none⟩ = some (.slice p names.length c)) (hv : v.ownBlock ≠ some b2) (hB2 : Below w.heap.size w W) (hBw : w.heap.size ≤ B) =>
    deleteF_any (delP names) fs v b2 B W hO hl hB (fun x hx W' hW' => isN_any names x p names.length c b2 W' (hs x hx) hn hnl (HS.out.below ((hB2.trans (hW'.below (fun k _ hk => Nat.le_trans hBw (World.ownsRow.lt hO k hk).1) (Nat.le_trans hBw hB))))) ((World.cell?_of_block (w := W) (hW'.block b2 (World.block_lt_of_cell? W _ hb2) hv)).trans hb2)))
  clear hF hl hs hn hnl
  go_enter Tryd.func7, Tryd.ntmps7
  go_wp2_with (go_at_call 21; refine HC.out.mono ?_; rintro e1 w1 ⟨v1, rfl, ho, hb⟩; have HO1 := Lib.hid ho; have HB1 := Lib.hid hb; clear ho hb)
  have HK := Lib.hid (Blk.new w1 #[.slice p names.length c] 43)
  refine (named_any _ _ _ _).mono ?_
  rintro e2 w2 ⟨rfl, hw2⟩
  have HO2 : Hid (OwnF w2 w.heap.size v1 fs) := by show OwnF _ _ _ _; rw [hw2]; exact HO1.out.alloc _
  have HB2 : Hid (Below w.heap.size w w2) := by show Below _ _ _; rw [hw2]; exact HB1.out.alloc HB1.out.size _
  have HK2 : Hid (w2.cell? ⟨w1.heap.size, 0, none⟩ = some (.slice p names.length c)) := by show _ = _; rw [hw2]; exact HK.out.cell 0
  have HNE : Hid (v1.ownBlock ≠ some w1.heap.size) := fun h => by have := (World.ownsRow.lt HO1.out _ h).2; omega
  have HDD := Lib.hid (HD.out v1 w2 w.heap.size HO2.out HB2.out.size w1.heap.size HK2.out HNE.out HB2.out (Nat.le_refl _))
  clear hw2
  go_wp2_with fail
  refine HDD.out.mono ?_
  rintro e3 w3 ⟨v3, rfl, ho, ht⟩
  have HB3 := Lib.hid (HB2.out.trans (ht.below (fun k _ hk => (World.ownsRow.lt HO2.out k hk).1) HB2.out.size))
  have HO3 := Lib.hid ho
  clear ho ht
  go_wp2_with fail
  go_ret
  exact ⟨_, rfl, HO3.out, HB3.out⟩
set_option maxRecDepth 100000 in
set_option maxHeartbeats 4000000 in
theorem with_any (fs : List Fd) (f : Value) (name value : ByteArray) (w : World) (hF : Flds w f fs) (hl : fs.length ≤ 1000000) :
    Calls Tryd.prog 8 #[f, .string name, .string value] w fun e w' => ∃ v', e = .returned v' ∧ OwnF w' w.heap.size v' (fs ++ [(name, value)]) ∧ Below w.heap.size w w' := by
  obtain ⟨i0, hi, hz0, hz1, hz2⟩ := info_parts info_field
  have HF := Lib.hid hF
  obtain ⟨p, c, rfl, _⟩ := hF
  obtain ⟨n, hnl⟩ : ∃ n, n = fs.length := ⟨_, rfl⟩
  have HN := Lib.hid hnl
  rw [← hnl] at hl HF ⊢
  clear hnl
  go_enter Tryd.func8, Tryd.ntmps8
  go_wp2_with (at_make; refine wpList_make_full _ rfl _ _ 22 rfl w.heap.size 56 i0 _ 2 Tryd.underlying22 hi hz0 hz1 .i64 .i64 ((n : Int) + 1) ((n : Int) + 1) (n + 1) ?hl ?hc ?h1 ?h2 ?b2 ?b3 (Nat.le_refl _) ?_)
  case hl => rfl
  case hc => rfl
  case h1 => omega
  case h2 => omega
  case b2 => rw [hz2]; omega
  case b3 => unfold maxLen; omega
  intro w2 hown2 hg2
  have hO2 : OwnF w2 w.heap.size (.slice (some ⟨w.heap.size, 0, none⟩) (n + 1) (n + 1)) (List.replicate (n + 1) (⟨#[]⟩, ⟨#[]⟩)) := by
    show w2.ownsRow _ _ _ _ (List.replicate (n + 1) (_ : Fd)).length _
    rw [List.length_replicate, ← made_flat]
    exact hown2
  have hb2 : Below w.heap.size w w2 := (Below.refl _ _).grown hg2 (Nat.le_refl _) (fun j hj => by cases hj)
  obtain ⟨cur, hcg, hBg, hnc, hcm, hcs, hct⟩ := ownF_row hO2 (by rw [List.length_replicate])
  have HF2 := Lib.hid (HF.out.below hb2)
  have HB2 := Lib.hid hb2
  have HCS := Lib.hid hcs
  have HCG := Lib.hid hcg
  obtain ⟨R, hR⟩ : ∃ R, R = (flat fs ++ cur.toList.drop (n * 2)).toArray := ⟨_, rfl⟩
  have hRs : R.size = (n + 1) * 2 := by
    rw [hR]
    have : cur.toList.length = (n + 1) * 2 := by rw [← hcs]; rfl
    simp [flat_length, ← HN.out]
    omega
  have HK3 : Hid ((w2.setRow w.heap.size R).heap[w.heap.size]? = some (.cells R 56 (0, 0))) := setRow_heap w2 w.heap.size cur R _ _ hcg
  have HB3 := Lib.hid (below_setRow hb2 (Nat.le_refl _) R)
  have hat : ∀ j, j < R.size → (w2.setRow w.heap.size R).cell? ⟨w.heap.size, j, none⟩ = R[j]? := by
    intro j hj
    simp [World.cell?, HK3.out]
  have hfr : ∀ j, (w2.setRow w.heap.size R).frozen? ⟨w.heap.size, j, none⟩ = false := by
    intro j
    simp [World.frozen?, HK3.out]
  obtain ⟨u0, hu0⟩ : ∃ u, R[n * 2]? = some u := ⟨_, Array.getElem?_eq_getElem (by omega)⟩
  obtain ⟨u1, hu1⟩ : ∃ u, R[n * 2 + 1]? = some u := ⟨_, Array.getElem?_eq_getElem (by omega)⟩
  have x0 := (hat (n * 2) (by omega)).trans hu0
  have x1 := (hat (n * 2 + 1) (by omega)).trans hu1
  have y0 := hfr (n * 2)
  have y1 := hfr (n * 2 + 1)
  have HFin : Hid (OwnF (((w2.setRow w.heap.size R).setCell ⟨w.heap.size, n * 2, none⟩ (.string name)).setCell ⟨w.heap.size, n * 2 + 1, none⟩ (.string value)) w.heap.size (.slice (some ⟨w.heap.size, 0, none⟩) (n + 1) (n + 1)) (fs ++ [(name, value)])) := by
    have h1 : OwnF (w2.setRow w.heap.size R) w.heap.size (.slice (some ⟨w.heap.size, 0, none⟩) (n + 1) (n + 1)) (fs ++ [(⟨#[]⟩, ⟨#[]⟩)]) := by
      refine ownF_mk (by simp [HN.out]) HK3.out (Nat.le_refl _) (Nat.le_refl _) (by unfold maxLen; omega) hRs ?_
      have hcl : cur.toList.length = (n + 1) * 2 := by rw [← hcs]; rfl
      rw [List.take_of_length_le (by rw [hcl]; omega)] at hct
      rw [List.take_of_length_le (by simp; omega), hR, hct]
      show flat fs ++ List.drop (n * 2) (flat (List.replicate (n + 1) (⟨#[]⟩, ⟨#[]⟩))) = _
      rw [flat_append]
      congr 1
      rw [List.replicate_succ', flat_append, List.drop_append_of_le_length (by rw [flat_length, List.length_replicate]; omega), List.drop_of_length_le (by rw [flat_length, List.length_replicate]; omega), List.nil_append]
    have h2 := OwnF.set (by simp [HN.out]) h1 n (by simp [HN.out]) (name, value)
    rw [show (fs ++ [((⟨#[]⟩ : ByteArray), (⟨#[]⟩ : ByteArray))]).set n (name, value) = fs ++ [(name, value)] by have h := HN.out; rw [List.set_append_right _ _ (by omega), show n - fs.length = 0 by omega]; rfl] at h2
    exact h2
  have HR := Lib.hid hR
  have hn0 : (0 : Int) ≤ (n : Int) := by omega
  have hn1 : (n : Int) < ((n + 1 : Nat) : Int) := by omega
  clear hown2 hg2 hO2 hb2 hcg hR hRs hat hfr hu0 hu1 hcs hct
  go_wp2_with (refine wpList_copy_flds rfl _ _ 22 rfl 56 Tryd.underlying22 (by kernel_rfl) w.heap.size (n + 1) (n + 1) rfl p n c rfl cur 56 HCG.out fs (Nat.le_succ _) HF2.out (by rw [HCS.out]; omega) ?_; rw [← HR.out])
  go_ret
  exact ⟨_, rfl, HFin.out, (HB3.out.setCell (Nat.le_refl _) _).setCell (Nat.le_refl _) _⟩
end Go.Proofs.YtimcmiokabbkfaaDoor
