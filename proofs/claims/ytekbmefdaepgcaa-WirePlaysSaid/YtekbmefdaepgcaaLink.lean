/- Links of package link: what each call does, said of the octets that came, of those that wait, and of what is told beside. -/
import Derived.Test.YtekbmefdaepgcaaQueuePlays
namespace Go.Proofs.Ytekbmefdaepgcaa
open Go.RowKit
/-- What a link holds. -/
structure LD where
  bi : Nat
  gi : Nat
  bo : Nat
  go : Nat
  most : Nat
  I : List UInt8
  O : List UInt8
  more : ByteArray
  ended : Bool
  shut : Bool
structure IsL (w : World) (b : Nat) (d : LD) : Prop where
  head : Blk w b #[.pointer (some ⟨d.bi, 0, none⟩), .pointer (some ⟨d.bo, 0, none⟩), .string d.more, .bool d.ended, .bool d.shut] 115
  inq : Que w d.bi d.gi d.most d.I
  outq : Que w d.bo d.go d.most d.O
  nb : d.bi ≠ d.bo
  ng : d.gi ≠ d.go
theorem Que.head {w : World} {b g most : Nat} {S : List UInt8} (h : Que w b g most S) : ∃ cs, Blk w b cs 136 := by
  obtain ⟨R, f, n, hq, _⟩ := h
  exact ⟨_, hq.head⟩
theorem Que.rowb {w : World} {b g most : Nat} {S : List UInt8} (h : Que w b g most S) : ∃ cs, Blk w g cs 5 := by
  obtain ⟨R, f, n, hq, _⟩ := h
  exact ⟨_, hq.row⟩
theorem IsL.ne {w : World} {b : Nat} {d : LD} (h : IsL w b d) : b ≠ d.bi ∧ b ≠ d.gi ∧ b ≠ d.bo ∧ b ≠ d.go ∧ d.bi ≠ d.gi ∧ d.bi ≠ d.go ∧ d.bo ≠ d.gi ∧ d.bo ≠ d.go := by
  obtain ⟨_, a1⟩ := h.inq.head
  obtain ⟨_, a2⟩ := h.inq.rowb
  obtain ⟨_, a3⟩ := h.outq.head
  obtain ⟨_, a4⟩ := h.outq.rowb
  exact ⟨h.head.ne a1 (by decide), h.head.ne a2 (by decide), h.head.ne a3 (by decide), h.head.ne a4 (by decide), a1.ne a2 (by decide), a1.ne a4 (by decide), a3.ne a2 (by decide), a3.ne a4 (by decide)⟩
/-- The blocks of a link. -/
def LD.blocks (d : LD) (b i : Nat) : Prop := i = b ∨ i = d.bi ∨ i = d.gi ∨ i = d.bo ∨ i = d.go
def LD.fill (d : LD) : LD := { d with O := d.O ++ d.more.data.toList.take (d.most - d.O.length), more := d.more.extract (min d.more.size (d.most - d.O.length)) d.more.size }
theorem LD.of_b (d : LD) (b : Nat) : d.blocks b b := .inl rfl
theorem LD.of_in (d : LD) (b : Nat) : ∀ k, (k = d.bi ∨ k = d.gi) → d.blocks b k := fun _ h => .inr (h.elim .inl fun h => .inr (.inl h))
theorem LD.of_out (d : LD) (b : Nat) : ∀ k, (k = d.bo ∨ k = d.go) → d.blocks b k := fun _ h => .inr (.inr (.inr h))
/-- What is behind a store into the link's own block, its queues as they are. -/
theorem IsL.store {w : World} {b : Nat} {d d' : LD} (hh : Blk w b #[.pointer (some ⟨d.bi, 0, none⟩), .pointer (some ⟨d.bo, 0, none⟩), .string d.more, .bool d.ended, .bool d.shut] 115)
    (hi : Que w d.bi d.gi d.most d'.I) (ho : Que w d.bo d.go d.most d'.O) (nb : d.bi ≠ d.bo) (ng : d.gi ≠ d.go) (i : Nat) (u : Value)
    (e0 : d'.bi = d.bi) (e1 : d'.gi = d.gi) (e2 : d'.bo = d.bo) (e3 : d'.go = d.go) (e4 : d'.most = d.most)
    (ec : (#[.pointer (some ⟨d.bi, 0, none⟩), .pointer (some ⟨d.bo, 0, none⟩), .string d.more, .bool d.ended, .bool d.shut] : Array Value).setIfInBounds i u = #[.pointer (some ⟨d.bi, 0, none⟩), .pointer (some ⟨d.bo, 0, none⟩), .string d'.more, .bool d'.ended, .bool d'.shut]) :
    IsL (w.setCell ⟨b, i, none⟩ u) b d' := by
  obtain ⟨_, a1⟩ := hi.head
  obtain ⟨_, a2⟩ := hi.rowb
  obtain ⟨_, a3⟩ := ho.head
  obtain ⟨_, a4⟩ := ho.rowb
  have t : Touch (fun k => k = b) w (w.setCell ⟨b, i, none⟩ u) := Touch.setCell (P := fun k => k = b) (Touch.refl _ _) rfl _
  refine ⟨?_, ?_, ?_, by rw [e0, e2]; exact nb, by rw [e1, e3]; exact ng⟩
  · rw [e0, e2, ← ec]
    exact hh.set i u
  · rw [e0, e1, e4]
    exact hi.touch t (Ne.symm (hh.ne a1 (by decide))) (Ne.symm (hh.ne a2 (by decide)))
  · rw [e2, e3, e4]
    exact ho.touch t (Ne.symm (hh.ne a3 (by decide))) (Ne.symm (hh.ne a4 (by decide)))
set_option maxHeartbeats 1000000 in
theorem fill_any {w : World} {b : Nat} {d : LD} (h : IsL w b d) (hs : d.more.size ≤ 9223372036854775807) :
    Calls Try.prog 107 #[.pointer (some ⟨b, 0, none⟩)] w fun e w' => e = .returned (.tuple #[]) ∧ IsL w' b d.fill ∧ Touch (d.blocks b) w w' := by
  obtain ⟨n1, n2, n3, n4, n5, n6, n7, n8⟩ := h.ne
  have c1 : w.cell? ⟨b, 1, none⟩ = some (.pointer (some ⟨d.bo, 0, none⟩)) := h.head.cell 1
  have c2 : w.cell? ⟨b, 2, none⟩ = some (.string d.more) := h.head.cell 2
  have z2 : w.frozen? ⟨b, 2, none⟩ = false := h.head.froz 2
  have HO := Lib.hid h.outq.drew
  obtain ⟨k, hk⟩ : ∃ k, k = min d.more.size (d.most - d.O.length) := ⟨_, rfl⟩
  have hkl : k ≤ d.more.size := by omega
  have HK := Lib.hid (show (k : Int) = (min d.more.size (d.most - d.O.length) : Nat) by rw [hk])
  have HKN := Lib.hid hk
  have n10 := h.nb
  have n11 := h.ng
  have H := Lib.hid h
  have n9 : ¬ (b = d.bo ∨ b = d.go) := by omega
  clear hk h
  go_enter Try.func107, Try.ntmps107
  go_region_with (go_at_call 131; refine (put_at HO.out d.more hs k (d.O ++ d.more.data.toList.take (d.most - d.O.length)) HK.out rfl).mono ?_; rintro e w2 ⟨rfl, q2, t2⟩; have hB2 := H.out.head.drew.touch t2 n9; have c2' : w2.cell? ⟨b, 2, none⟩ = some (.string d.more) := hB2.cell 2; have z2' : w2.frozen? ⟨b, 2, none⟩ = false := hB2.froz 2)
  all_goals
    have hd := H.out
    go_end0
    refine ⟨rfl, ?_, ?_⟩
    · refine IsL.store (d := d) (d' := d.fill) hB2 (hd.inq.drew.touch t2 (by omega) (by omega)) q2 hd.nb hd.ng 2 _ rfl rfl rfl rfl rfl ?_
      rw [HKN.out]
      rfl
    · exact ((Touch.refl _ w).drew.trans (t2.mono fun k _ h => d.of_out b k h)).setCell (d.of_b b) _
/-- A link that is none, or a zero one. -/
def NoLink (w : World) (p : Option Addr) : Prop := p = none ∨ ∃ b, p = some ⟨b, 0, none⟩ ∧ Blk w b #[.pointer none, .pointer none, .string ⟨#[]⟩, .bool false, .bool false] 115
theorem made_yes {w : World} {b : Nat} {d : LD} (h : IsL w b d) : Calls Try.prog 74 #[.pointer (some ⟨b, 0, none⟩)] w fun e w' => e = .returned (.bool true) ∧ w = w' := by
  have c0 : w.cell? ⟨b, 0, none⟩ = some (.pointer (some ⟨d.bi, 0, none⟩)) := h.head.cell 0
  clear h
  go_enter Try.func74, Try.ntmps74
  go_wp2
  go_ret
  exact ⟨rfl, rfl⟩
theorem made_no {w : World} {p : Option Addr} (h : NoLink w p) : Calls Try.prog 74 #[.pointer p] w fun e w' => e = .returned (.bool false) ∧ w = w' := by
  rcases h with rfl | ⟨b, rfl, hb⟩
  · go_enter Try.func74, Try.ntmps74
    go_wp2
    go_ret
    exact ⟨rfl, rfl⟩
  · have c0 : w.cell? ⟨b, 0, none⟩ = some (.pointer none) := hb.cell 0
    clear hb
    go_enter Try.func74, Try.ntmps74
    go_wp2
    go_ret
    exact ⟨rfl, rfl⟩
theorem give_no {w : World} {p : Option Addr} (h : NoLink w p) (x : ByteArray) : Calls Try.prog 103 #[.pointer p, .string x] w fun e w' => e = .returned (.int .i64 0) ∧ w = w' := by
  have H := Lib.hid h
  clear h
  go_enter Try.func103, Try.ntmps103
  go_wp2_with fail
  refine (made_no H.out).mono ?_
  rintro e w' ⟨rfl, rfl⟩
  go_wp2_with fail
  go_ret
  exact ⟨rfl, rfl⟩
theorem end_no {w : World} {p : Option Addr} (h : NoLink w p) : Calls Try.prog 104 #[.pointer p] w fun e w' => e = .returned (.tuple #[]) ∧ w = w' := by
  have H := Lib.hid h
  clear h
  go_enter Try.func104, Try.ntmps104
  go_wp2_with fail
  refine (made_no H.out).mono ?_
  rintro e w' ⟨rfl, rfl⟩
  go_wp2_with fail
  go_end0
  exact ⟨rfl, rfl⟩
theorem left_no {w : World} {p : Option Addr} (h : NoLink w p) : Calls Try.prog 23 #[.pointer p] w fun e w' => e = .returned (.string ⟨#[]⟩) ∧ w = w' := by
  have H := Lib.hid h
  clear h
  go_enter Try.func23, Try.ntmps23
  go_wp2_with fail
  refine (made_no H.out).mono ?_
  rintro e w' ⟨rfl, rfl⟩
  go_wp2_with fail
  go_ret
  exact ⟨rfl, rfl⟩
theorem use_no {w : World} {p : Option Addr} (h : NoLink w p) (x : Int) : Calls Try.prog 69 #[.pointer p, .int .i64 x] w fun e w' => e = .returned (.tuple #[]) ∧ w = w' := by
  have H := Lib.hid h
  clear h
  go_enter Try.func69, Try.ntmps69
  go_wp2_with fail
  refine (made_no H.out).mono ?_
  rintro e w' ⟨rfl, rfl⟩
  go_wp2_with fail
  go_end0
  exact ⟨rfl, rfl⟩
theorem dry_no {w : World} {p : Option Addr} (h : NoLink w p) : Calls Try.prog 24 #[.pointer p] w fun e w' => e = .returned (.bool false) ∧ w = w' := by
  have H := Lib.hid h
  clear h
  go_enter Try.func24, Try.ntmps24
  go_wp2_with fail
  refine (made_no H.out).mono ?_
  rintro e w' ⟨rfl, rfl⟩
  go_wp2_with fail
  go_ret
  exact ⟨rfl, rfl⟩
theorem write_no {w : World} {p : Option Addr} (h : NoLink w p) (x : ByteArray) : Calls Try.prog 65 #[.pointer p, .string x] w fun e w' => e = .returned (.tuple #[]) ∧ w = w' := by
  have H := Lib.hid h
  clear h
  go_enter Try.func65, Try.ntmps65
  go_wp2_with fail
  refine (made_no H.out).mono ?_
  rintro e w' ⟨rfl, rfl⟩
  go_wp2_with fail
  go_end0
  exact ⟨rfl, rfl⟩
theorem waits_no {w : World} {p : Option Addr} (h : NoLink w p) : Calls Try.prog 25 #[.pointer p] w fun e w' => e = .returned (.int .i64 0) ∧ w = w' := by
  have H := Lib.hid h
  clear h
  go_enter Try.func25, Try.ntmps25
  go_wp2_with fail
  refine (made_no H.out).mono ?_
  rintro e w' ⟨rfl, rfl⟩
  go_wp2_with fail
  go_ret
  exact ⟨rfl, rfl⟩
theorem take_no {w : World} {p : Option Addr} (h : NoLink w p) (x : Int) : Calls Try.prog 108 #[.pointer p, .int .i64 x] w fun e w' => e = .returned (.string ⟨#[]⟩) ∧ w = w' := by
  have H := Lib.hid h
  clear h
  go_enter Try.func108, Try.ntmps108
  go_wp2_with fail
  refine (made_no H.out).mono ?_
  rintro e w' ⟨rfl, rfl⟩
  go_wp2_with fail
  go_ret
  exact ⟨rfl, rfl⟩
theorem shut_no {w : World} {p : Option Addr} (h : NoLink w p) : Calls Try.prog 71 #[.pointer p] w fun e w' => e = .returned (.tuple #[]) ∧ w = w' := by
  have H := Lib.hid h
  clear h
  go_enter Try.func71, Try.ntmps71
  go_wp2_with fail
  refine (made_no H.out).mono ?_
  rintro e w' ⟨rfl, rfl⟩
  go_wp2_with fail
  go_end0
  exact ⟨rfl, rfl⟩
end Go.Proofs.Ytekbmefdaepgcaa
