/- Texts packed for one claim, 38 of 49: HPrint HLives. -/
import Derived.Test.YtbglakhojbhfbaaGreatDoorEncodeBackQ36
import Derived.Test.YtbglakhojbhfbaaGreatDoorEncodeBackQ35
import Derived.Test.YtbglakhojbhfbaaGreatDoorEncodeBackQ37
set_option linter.unusedSimpArgs false
set_option linter.unusedVariables false
-- HPrint
namespace Go.Proofs.YtbglakhojbhfbaaGreatDoor
open Go.RowKit
theorem fds_of {w : World} {A : Option Addr} {len cap : Nat} {l : List Fd} (h : Flds w (.slice A len cap) l) : Fds w A len l := by
  obtain ⟨p, c, hv, hc⟩ := h
  injection hv with h1 h2 h3
  subst h1
  refine ⟨h2.symm, fun h0 => ?_⟩
  obtain ⟨b, off, hp, c0, _⟩ := hc 0 (by omega)
  refine ⟨b, off, hp, World.block_lt_of_cell? _ _ c0, fun i g hg => ?_⟩
  obtain ⟨hi, hgi⟩ := List.getElem?_eq_some_iff.1 hg
  obtain ⟨b2, off2, hp2, e0, e1⟩ := hc i hi
  rw [hp] at hp2
  injection hp2 with hp2
  injection hp2 with q1 q2
  subst q1 q2
  rw [hgi] at e0 e1
  rw [Nat.mul_comm i 2]
  exact ⟨e0, e1⟩
/-- A head's text, without its last line's end. -/
def printA (o : ByteArray) (l : List Fd) : ByteArray := l.foldl (fun o f => o ++ frow f) o
def printB (m t : ByteArray) (k n : Int) (r : ByteArray) (l : List Fd) : ByteArray := printA (lineB m t k n r ++ crlf) l ++ crlf
theorem printA_snoc (o : ByteArray) (l : List Fd) (f : Fd) : printA o (l ++ [f]) = printA o l ++ frow f := by unfold printA; rw [List.foldl_append]; rfl
theorem printA_size (o : ByteArray) (l : List Fd) (hs : ∀ g ∈ l, g.1.size ≤ 1000 ∧ g.2.size ≤ 1000) (ho : o.size ≤ 4002) : ∀ k, k ≤ l.length → (printA o (l.take k)).size ≤ 4002 + 2004 * k
  | 0, _ => by rw [List.take_zero]; exact ho
  | k + 1, h => by
    have h1 := printA_size o l hs ho k (by omega)
    rw [List.take_succ_eq_append_getElem (by omega), printA_snoc, ByteArray.size_append]
    have h2 := frow_size (l[k]'(by omega))
    have h3 := hs (l[k]'(by omega)) (List.getElem_mem _)
    omega
theorem lineB_size (m t r : ByteArray) (k n : Int) (hm : m.size ≤ 1000) (ht : t.size ≤ 1000) (hr : r.size ≤ 1000) (hn : -9223372036854775808 ≤ n) (hn' : n ≤ 9223372036854775807) : (lineB m t k n r).size ≤ 4000 := by
  unfold lineB
  split
  · have hp := padB_size n hn hn'
    simp only [ByteArray.size_append, verB_size]
    have : sp1.size = 1 := rfl
    omega
  · simp only [ByteArray.size_append, verB_size]
    have : sp1.size = 1 := rfl
    omega
/-- The state of Print: the head's block, the Builder's. -/
structure HpSt (w : World) (R : Array Value) (v : World) (T : ByteArray) : Prop where
  k : Blk v w.heap.size R 27
  u : Below w.heap.size w v
  z : w.heap.size + 2 ≤ v.heap.size
  bd : ∃ p q, Own.Bld v (w.heap.size + 2) (w.heap.size + 1) p q T.data.toList
theorem HpSt.call {w v v' : World} {R : Array Value} {T : ByteArray} (h : HpSt w R v T) (hb : Below v.heap.size v v') : HpSt w R v' T := by
  obtain ⟨p, q, hbd⟩ := h.bd
  exact ⟨h.k.call hb, h.u.trans (hb.mono h.u.size), Nat.le_trans h.z hb.size, p, q, hbd.touch (P := fun _ => False) (Touch.of_below hb) id (fun _ _ => id)⟩
theorem HpSt.alloc_call {w v v' : World} {R : Array Value} {T : ByteArray} {o : Obj} (h : HpSt w R v T) (hb : Below (v.alloc o).heap.size (v.alloc o) v') : HpSt w R v' T := h.call (below_one hb)
theorem pr_touch {w v : World} {R : Array Value} {T : ByteArray} {P : Nat → Prop} {v' : World} (h : HpSt w R v T) (ht : Touch P v v') (hP : ∀ i, P i → i = w.heap.size + 1 ∨ w.heap.size + 2 ≤ i) : Blk v' w.heap.size R 27 ∧ Below w.heap.size w v' ∧ w.heap.size + 2 ≤ v'.heap.size := by
  refine ⟨h.k.touch ht (fun e => by have := hP _ e; omega), h.u.trans (ht.below (fun k _ hp => by have := hP _ hp; omega) h.u.size), Nat.le_trans h.z ht.size⟩
theorem pr_step {w v v' : World} {R : Array Value} {T : ByteArray} {T' : List UInt8} {S : ByteArray} {p q : Value} (h : HpSt w R v T) (ht : Touch (fun i => i = w.heap.size + 1 ∨ Own.Row v (w.heap.size + 2) i) v v') (hb : Own.Bld v' (w.heap.size + 2) (w.heap.size + 1) p q T') (hT : S.data.toList = T') : HpSt w R v' S := by
  subst hT
  obtain ⟨h1, h2, h3⟩ := pr_touch h ht (fun i hi => by
    rcases hi with hi | hi
    · exact Or.inl hi
    · exact Or.inr hi.1)
  exact ⟨h1, h2, h3, p, q, hb⟩
theorem pr_last {w v v' : World} {R : Array Value} {T : ByteArray} (h : HpSt w R v T) (ht : Touch (fun i => Own.Row v (w.heap.size + 2) i) v v') : Below w.heap.size w v' := (pr_touch h ht (fun i hi => Or.inr hi.1)).2.1
end Go.Proofs.YtbglakhojbhfbaaGreatDoor
-- HLives
namespace Go.Proofs.YtbglakhojbhfbaaGreatDoor
open Go.RowKit
/-- A parser that is fed, its blocks behind a bound. -/
theorem paP_below {w w1 : World} {N b g : Nat} {vl va : Value} (t : Touch (PaP b g vl va) w w1) (hb : N ≤ b) (hg : N ≤ g) (hvl : ∀ k, vl.ownBlock = some k → N ≤ k) (hva : ∀ k, va.ownBlock = some k → N ≤ k) (hN : N ≤ w.heap.size) : Below N w w1 :=
  t.below (fun k _ hp => by
    rcases hp with e | e | e | e
    · omega
    · omega
    · exact hvl k e
    · exact hva k e) hN
def lvS : ByteArray := ⟨#[71, 69, 84, 32, 47, 32, 72, 84, 84, 80, 47, 49, 46, 49, 13, 10, 72, 111, 115, 116, 58, 32, 97, 13, 10, 13, 10]⟩
def lvX : ByteArray := ⟨#[71, 69, 84, 32, 47, 32, 72, 84, 84, 80, 47, 49, 46, 49, 13, 10, 72, 111, 115, 116, 58, 32, 97, 13, 10, 13, 10, 120]⟩
def lvH : Hd := ⟨⟨#[71, 69, 84]⟩, ⟨#[47]⟩, 1, 0, ⟨#[]⟩, [(⟨#[72, 111, 115, 116]⟩, ⟨#[97]⟩)]⟩
set_option maxRecDepth 100000 in
theorem lv_n : (pRun 1 1000 0 lvX.data.toList (pa0 65536)).2 = 27 := by kernel_rfl
set_option maxRecDepth 100000 in
theorem lv_e : (pRun 1 1000 0 lvX.data.toList (pa0 65536)).1.e = 0 := by kernel_rfl
set_option maxRecDepth 100000 in
theorem lv_f : (pRun 1 1000 0 lvX.data.toList (pa0 65536)).1.fin = true := by kernel_rfl
set_option maxRecDepth 100000 in
theorem lv_h : (pRun 1 1000 0 lvX.data.toList (pa0 65536)).1.hd = lvH := by kernel_rfl
set_option maxRecDepth 100000 in
theorem lv_p : printB lvH.m lvH.t lvH.k lvH.n lvH.r lvH.fs = lvS := by kernel_rfl
set_option maxRecDepth 100000 in
theorem lv_p2 : printB ⟨#[71, 69, 84]⟩ ⟨#[47]⟩ 1 0 ⟨#[]⟩ [(⟨#[72, 111, 115, 116]⟩, ⟨#[97]⟩)] = ⟨#[71, 69, 84, 32, 47, 32, 72, 84, 84, 80, 47, 49, 46, 49, 13, 10, 72, 111, 115, 116, 58, 32, 97, 13, 10, 13, 10]⟩ := by kernel_rfl
theorem lv_small : ∀ g ∈ [((⟨#[72, 111, 115, 116]⟩, ⟨#[97]⟩) : Fd)], g.1.size ≤ 1000 ∧ g.2.size ≤ 1000 := by
  intro g hg
  rw [List.mem_singleton] at hg
  subst hg
  exact ⟨by decide, by decide⟩
end Go.Proofs.YtbglakhojbhfbaaGreatDoor
