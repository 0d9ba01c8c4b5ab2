/- Wires of package wire: what each call does. Conditions: the sizes that the statement's bounds give. -/
import Derived.Test.YtekbmefdaepgcaaWireBld
import Derived.Test.YtekbmefdaepgcaaCl
import Derived.Test.YtekbmefdaepgcaaLinkLaw
namespace Go.Proofs.Ytekbmefdaepgcaa
open Go.RowKit
/-- A wire in block b, its stock in block sb: S came, at_ of it was read, E: ended, T was taken. Its Builder's rows lie from block B on. -/
structure IsW (w : World) (B b sb : Nat) (S : ByteArray) (at_ : Nat) (E : Bool) (T : List UInt8) : Prop where
  st : Blk w sb #[.string S, .int .i64 at_, .bool E] 109
  bl : ∃ p v, Bld w B b (.pointer (some ⟨sb, 0, none⟩)) p v T
  le : at_ ≤ S.size
  hb : b < B
  hs : sb < B
  hB : B ≤ w.heap.size
section
variable {w w1 : World} {B b sb at_ : Nat} {S : ByteArray} {E : Bool} {T : List UInt8}
theorem IsW.blk (h : IsW w B b sb S at_ E T) : ∃ p v, Blk w b #[.pointer (some ⟨sb, 0, none⟩), p, v] 111 := by
  obtain ⟨p, v, hb⟩ := h.bl
  exact ⟨p, v, hb.blk⟩
theorem IsW.ne (h : IsW w B b sb S at_ E T) : b ≠ sb := by
  obtain ⟨p, v, hb⟩ := h.blk
  exact hb.ne h.st (by decide)
theorem IsW.cell (h : IsW w B b sb S at_ E T) : w.cell? ⟨b, 0, none⟩ = some (.pointer (some ⟨sb, 0, none⟩)) := by
  obtain ⟨p, v, hb⟩ := h.blk
  exact hb.cell 0
theorem IsW.far {P : Nat → Prop} (h : IsW w B b sb S at_ E T) (t : Touch P w w1) (h1 : ¬ P b) (h2 : ¬ P sb) (h3 : ∀ k, B ≤ k → ¬ P k) : IsW w1 B b sb S at_ E T := by
  obtain ⟨p, v, hb⟩ := h.bl
  exact ⟨h.st.touch t h2, ⟨p, v, hb.touch t h1 h3⟩, h.le, h.hb, h.hs, Nat.le_trans h.hB t.size⟩
/-- The stock turned. -/
theorem IsW.turn (h : IsW w B b sb S at_ E T) (t : Touch (fun i => i = sb) w w1) {S' : ByteArray} {at' : Nat} {E' : Bool} (hs : Blk w1 sb #[.string S', .int .i64 at', .bool E'] 109) (hl : at' ≤ S'.size) : IsW w1 B b sb S' at' E' T := by
  have hne := h.ne
  have hsB := h.hs
  obtain ⟨p, v, hb⟩ := h.bl
  exact ⟨hs, ⟨p, v, hb.touch t hne (fun k hk e => by omega)⟩, hl, h.hb, h.hs, Nat.le_trans h.hB t.size⟩
end
theorem wmade_any {w : World} {B b sb at_ : Nat} {S : ByteArray} {E : Bool} {T : List UInt8} (h : IsW w B b sb S at_ E T) : Calls Try.prog 72 #[.pointer (some ⟨b, 0, none⟩)] w fun e w' => e = .returned (.bool true) ∧ w = w' := by
  have c0 := h.cell
  clear h
  go_enter Try.func72, Try.ntmps72
  go_wp2
  go_ret
  exact ⟨rfl, rfl⟩
theorem stockLeft_any {w : World} {sb at_ : Nat} {S : ByteArray} {E : Bool} (h : Blk w sb #[.string S, .int .i64 at_, .bool E] 109) (hl : at_ ≤ S.size) (hs : S.size ≤ 4611686018427387903) (k : Int) (hk : k = (S.size : Int) - at_) : Calls Try.prog 73 #[.pointer (some ⟨sb, 0, none⟩)] w fun e w' => e = .returned (.int .i64 k) ∧ ∃ n, w.drewN n = w' := by
  have c0 : w.cell? ⟨sb, 0, none⟩ = some (.string S) := h.cell 0
  have c1 : w.cell? ⟨sb, 1, none⟩ = some (.int .i64 at_) := h.cell 1
  have HK := Lib.hid hk
  clear h hk
  go_enter Try.func73, Try.ntmps73
  go_wp2_with fail
  go_quiet (fail)
  go_wp2_with fail
  go_ret
  exact ⟨by rw [HK.out]; rfl, _, rfl⟩
theorem wleft_any {w : World} {B b sb at_ : Nat} {S : ByteArray} {E : Bool} {T : List UInt8} (h : IsW w B b sb S at_ E T) (hs : S.size ≤ 4611686018427387903) (k : Int) (hk : k = (S.size : Int) - at_) : Calls Try.prog 21 #[.pointer (some ⟨b, 0, none⟩)] w fun e w' => e = .returned (.int .i64 k) ∧ ∃ n, w.drewN n = w' := by
  have c0 := h.cell
  have H := Lib.hid h
  have HK := Lib.hid hk
  clear h hk
  go_enter Try.func21, Try.ntmps21
  go_wp2_with fail
  refine (wmade_any H.out).mono ?_
  rintro e w' ⟨rfl, rfl⟩
  go_wp2_with fail
  refine (stockLeft_any H.out.st H.out.le hs k HK.out).mono ?_
  rintro e w' ⟨rfl, n, rfl⟩
  go_wp2_with fail
  go_ret
  exact ⟨rfl, _, rfl⟩
theorem wend_any {w : World} {B b sb at_ : Nat} {S : ByteArray} {E : Bool} {T : List UInt8} (h : IsW w B b sb S at_ E T) : Calls Try.prog 63 #[.pointer (some ⟨b, 0, none⟩)] w fun e w' => e = .returned (.tuple #[]) ∧ IsW w' B b sb S at_ true T ∧ Touch (fun i => i = sb) w w' := by
  have c0 := h.cell
  have c2 : w.cell? ⟨sb, 2, none⟩ = some (.bool E) := h.st.cell 2
  have z2 : w.frozen? ⟨sb, 2, none⟩ = false := h.st.froz 2
  have H := Lib.hid h
  clear h
  go_enter Try.func63, Try.ntmps63
  go_wp2_with fail
  refine (wmade_any H.out).mono ?_
  rintro e w' ⟨rfl, rfl⟩
  go_wp2
  go_end0
  have t : Touch (fun i => i = sb) w (w.setCell ⟨sb, 2, none⟩ (.bool true)) := Touch.setCell (P := fun i => i = sb) (Touch.refl _ _) rfl _
  exact ⟨rfl, H.out.turn t (H.out.st.set 2 _) H.out.le, t⟩
theorem wsend_off {w : World} {B b sb at_ : Nat} {S : ByteArray} {T : List UInt8} (h : IsW w B b sb S at_ true T) (x : ByteArray) : Calls Try.prog 59 #[.pointer (some ⟨b, 0, none⟩), .string x] w fun e w' => e = .returned (.int .i64 0) ∧ w = w' := by
  have c0 := h.cell
  have c2 : w.cell? ⟨sb, 2, none⟩ = some (.bool true) := h.st.cell 2
  have H := Lib.hid h
  clear h
  go_enter Try.func59, Try.ntmps59
  go_wp2_with fail
  refine (wmade_any H.out).mono ?_
  rintro e w' ⟨rfl, rfl⟩
  go_wp2_with fail
  go_ret
  exact ⟨rfl, rfl⟩
theorem wsend_any {w : World} {B b sb at_ : Nat} {S : ByteArray} {T : List UInt8} (h : IsW w B b sb S at_ false T) (x S' : ByteArray) (hs : S.size + x.size ≤ 1048576) (hS : S' = S ++ x) : Calls Try.prog 59 #[.pointer (some ⟨b, 0, none⟩), .string x] w fun e w' => e = .returned (.int .i64 x.size) ∧ IsW w' B b sb S' at_ false T ∧ Touch (fun i => i = sb) w w' := by
  have c0 := h.cell
  have c1 : w.cell? ⟨sb, 0, none⟩ = some (.string S) := h.st.cell 0
  have c2 : w.cell? ⟨sb, 2, none⟩ = some (.bool false) := h.st.cell 2
  have z0 : w.frozen? ⟨sb, 0, none⟩ = false := h.st.froz 0
  have H := Lib.hid h
  have HS := Lib.hid hS
  have hxx : x.extract 0 x.size = x := bytes_ext (by rw [data_extract, List.drop_zero, List.take_of_length_le (by rw [bsize]; omega)])
  have hadd := fun (W : World) => run_string_add_sum (P := Try.prog) (w := W) S x (by omega)
  clear h hS
  go_enter Try.func59, Try.ntmps59
  go_wp2_with fail
  refine (wmade_any H.out).mono ?_
  rintro e w' ⟨rfl, rfl⟩
  go_wp2_with fail
  go_ret
  have t : Touch (fun i => i = sb) w (w.setCell ⟨sb, 0, none⟩ (.string (S ++ x))) := Touch.setCell (P := fun i => i = sb) (Touch.refl _ _) rfl _
  have hle := H.out.le
  exact ⟨rfl, H.out.turn t (by rw [HS.out]; exact H.out.st.set 0 _) (by rw [HS.out, ByteArray.size_append]; omega), t⟩
theorem sent_any {w : World} {B b sb at_ : Nat} {S : ByteArray} {E : Bool} {T : List UInt8} (h : IsW w B b sb S at_ E T) (x : ByteArray) (hx : x.data.toList = T) : Calls Try.prog 22 #[.pointer (some ⟨b, 0, none⟩)] w fun e w' => e = .returned (.string x) ∧ IsW w' B b sb S at_ E T ∧ Touch (fun i => Row w B i) w w' := by
  have c0 := h.cell
  have H := Lib.hid h
  have HX := Lib.hid hx
  obtain ⟨p, v, hb⟩ := h.bl
  have HB := Lib.hid hb
  clear h hx hb
  go_enter Try.func22, Try.ntmps22
  go_wp2_with fail
  refine (wmade_any H.out).mono ?_
  rintro e w' ⟨rfl, rfl⟩
  go_wp2_with fail
  refine (string_any HB.out H.out.hb H.out.hB x HX.out).mono ?_
  rintro e w2 ⟨rfl, hb2, t2⟩
  have HB2 := Lib.hid hb2
  have T2 := Lib.hid t2
  clear hb2 t2
  go_wp2_with fail
  go_ret
  have hs := H.out.hs
  exact ⟨rfl, ⟨H.out.st.touch T2.out (fun h => by have := h.1; omega), ⟨_, _, HB2.out⟩, H.out.le, H.out.hb, hs, Nat.le_trans H.out.hB T2.out.size⟩, T2.out⟩
theorem wnew_any (w : World) : Calls Try.prog 18 #[] w fun e w' => e = .returned (.pointer (some ⟨w.heap.size + 1, 0, none⟩)) ∧ Blk w' w.heap.size #[.string ⟨#[]⟩, .int .i64 0, .bool false] 109 ∧ Blk w' (w.heap.size + 1) #[.pointer (some ⟨w.heap.size, 0, none⟩), .pointer none, .slice none 0 0] 111 ∧ Below w.heap.size w w' ∧ w'.heap.size = w.heap.size + 2 := by
  go_enter Try.func18, Try.ntmps18
  go_wp2
  go_ret
  refine ⟨rfl, (Blk.new _ _ _).alloc _, Blk.new' (by simp), ((Below.refl _ _).alloc (Nat.le_refl _) _).alloc (by simp) _, by simp⟩
theorem IsW.new {w : World} {B b sb : Nat} (h1 : Blk w sb #[.string ⟨#[]⟩, .int .i64 0, .bool false] 109) (h2 : Blk w b #[.pointer (some ⟨sb, 0, none⟩), .pointer none, .slice none 0 0] 111) (hb : b < B) (hs : sb < B) (hB : B ≤ w.heap.size) : IsW w B b sb ⟨#[]⟩ 0 false [] :=
  ⟨h1, ⟨_, _, .inl rfl, h2, World.ownsRowF_nil _ _ _ _, fun _ => rfl⟩, Nat.zero_le _, hb, hs, hB⟩
/-! Give, whatever the link's state. -/
def LD.room (d : LD) : Nat := if d.ended || d.shut then 0 else d.most - d.I.length
theorem give_full {w : World} {b : Nat} {d : LD} (h : IsL w b d) (x : ByteArray) (hs : x.size ≤ 9223372036854775807) (k : Nat) (hk : k = min x.size d.room) (d' : LD) (hd : d' = { d with I := d.I ++ x.data.toList.take d.room }) :
    Calls Try.prog 103 #[.pointer (some ⟨b, 0, none⟩), .string x] w fun e w' => e = .returned (.int .i64 k) ∧ IsL w' b d' ∧ Touch (d.blocks b) w w' := by
  subst hk hd
  unfold LD.room
  cases he : d.ended || d.shut with
  | true =>
    simp only [if_true, List.take_zero, List.append_nil, Nat.min_zero]
    refine (give_shut h x he).mono ?_
    rintro e w' ⟨rfl, rfl⟩
    exact ⟨rfl, h, Touch.refl _ _⟩
  | false =>
    rw [Bool.or_eq_false_iff] at he
    simp only [Bool.false_eq_true, if_false]
    exact give_any h x hs he.1 he.2
theorem read1_any {w : World} {ka : Addr} {b : Nat} {d : LD} (hc : w.cell? ka = some (.pointer (some ⟨b, 0, none⟩))) (h : IsL w b d) (x : ByteArray) (hs : x.size ≤ 9223372036854775807) (k : Nat) (hk : k = min x.size d.room) (d' : LD) (hd : d' = { d with I := d.I ++ x.data.toList.take d.room }) :
    Calls Try.prog 102 #[.string x, .pointer (some ka)] w fun e w' => e = .returned (.int .i64 k) ∧ IsL w' b d' ∧ Touch (d.blocks b) w w' := by
  have H := Lib.hid h
  have HK := Lib.hid hk
  have HD := Lib.hid hd
  clear h hk hd
  go_enter Try.func102, Try.ntmps102
  go_wp2_with fail
  refine (give_full H.out x hs k HK.out d' HD.out).mono ?_
  rintro e w2 ⟨rfl, l2, t2⟩
  have L2 := Lib.hid l2
  have T2 := Lib.hid t2
  clear l2 t2
  go_wp2_with fail
  go_ret
  exact ⟨rfl, L2.out, T2.out⟩
/-- What Read leaves of a link: what was given, and, where all of an ended wire was read, its end. -/
def LD.fin (d : LD) (v : Bool) : LD := { d with ended := d.ended || v }

set_option maxHeartbeats 2000000 in
theorem wread_neg {w : World} {B b sb at_ kb U : Nat} {S : ByteArray} {E : Bool} {T : List UInt8} {d : LD} (h : IsW w B b sb S at_ E T) (hl : IsL w kb d) (hbl : ∀ i, d.blocks kb i → i < B) (hb1 : ¬ d.blocks kb b) (hb2 : ¬ d.blocks kb sb) (hs : S.size ≤ 1048576) (n : Int) (hn : n < 0) (hU : U = at_) (hUl : at_ ≤ U) (hUs : U ≤ S.size) (k : Nat) (hk : k = min (S.extract at_ U).size d.room) (hkx : at_ + k ≤ U) (v : Bool) (hv : v = decide (at_ + k = S.size)) (d' : LD) (hd : d' = { d with I := d.I ++ (S.extract at_ U).data.toList.take d.room, ended := d.ended || (E && v) }) :
    Calls Try.prog 60 #[.pointer (some ⟨b, 0, none⟩), .pointer (some ⟨kb, 0, none⟩), .int .i64 n] w fun e w' => e = .returned (.int .i64 k) ∧ IsW w' B b sb S (at_ + k) E T ∧ IsL w' kb d' ∧ Touch (fun i => i = sb ∨ d.blocks kb i) w w' := by
  have hle := h.le
  have hzB := h.hB
  have hbB := h.hb
  have hsB := h.hs
  have hne := h.ne
  have H := Lib.hid h
  have HL := Lib.hid hl
  have HBL := Lib.hid hbl
  have HB1 := Lib.hid hb1
  have HB2 := Lib.hid hb2
  have HK := Lib.hid hk
  have HV := Lib.hid hv
  have HD := Lib.hid hd
  obtain ⟨L, hL⟩ : ∃ L : Int, L = (S.size : Int) - at_ := ⟨_, rfl⟩
  have hL0 : 0 ≤ L := by omega
  have hS4 : S.size ≤ 4611686018427387903 := by omega
  have hL1 : L ≤ 1048576 := by omega
  have hul : (at_ : Int) ≤ (U : Int) := by omega
  have hus : (U : Int) ≤ (S.size : Int) := by omega
  have hxs : (S.extract at_ U).size ≤ 9223372036854775807 := by rw [ByteArray.size_extract]; omega
  obtain ⟨W, hW⟩ : ∃ W, W = w.alloc (.cells #[.pointer (some ⟨kb, 0, none⟩)] 45) := ⟨_, rfl⟩
  have tW : Touch (fun _ => False) w W := by rw [hW]; exact (Touch.refl _ _).alloc _
  have hcK : W.cell? ⟨w.heap.size, 0, none⟩ = some (.pointer (some ⟨kb, 0, none⟩)) := by rw [hW]; exact (Blk.new _ _ _).cell 0
  have hw1 : IsW W B b sb S at_ E T := H.out.far tW id id (fun _ _ => id)
  have H1 := Lib.hid hw1
  have L1 := Lib.hid (HL.out.far tW (fun _ _ => id))
  have TW := Lib.hid tW
  have HKN := Lib.hid (show ¬ d.blocks kb w.heap.size from fun hi => by have := HBL.out _ hi; omega)
  have d0 : W.cell? ⟨b, 0, none⟩ = some (.pointer (some ⟨sb, 0, none⟩)) := hw1.cell
  have d1 : W.cell? ⟨sb, 0, none⟩ = some (.string S) := hw1.st.cell 0
  have d2 : W.cell? ⟨sb, 1, none⟩ = some (.int .i64 at_) := hw1.st.cell 1
  have HLL := Lib.hid hL
  have hmx : max n 0 = 0 := by omega
  have hmn : min 0 L = 0 := by omega
  have hw1 : IntKind.i64.wrap ((at_ : Int) + 0) = (U : Int) := by rw [IntWalk.i64_in _ (by omega)]; omega
  have hw2 : IntKind.i64.wrap (at_ : Int) = (U : Int) := by rw [IntWalk.i64_in _ (by omega)]; omega
  clear h hl hbl hb1 hb2 hk hv hd hw1 tW hL hU
  go_enter Try.func60, Try.ntmps60
  go_wp2_with fail
  rw [← hW]
  have HW := Lib.hid hW
  clear hW
  refine (wmade_any H1.out).mono ?_
  rintro e w' ⟨rfl, rfl⟩
  go_wp2_with fail
  refine wp_region_drew_tail 29 (by kernel_rfl) (by kernel_rfl) ?_
  simp only [List.take_succ_cons, List.take_zero, List.drop_succ_cons, List.drop_zero]
  repeat go_big_quiet_step ((go_at_call 21; exact Calls.quiet_of ((wleft_any (H1.out.far (P := fun _ => False) ((Touch.refl _ _).drewN _) id id (fun _ _ => id)) hS4 L HLL.out).mono fun _ _ ⟨a, m, b⟩ => ⟨a, m, b.symm⟩)))
  refine wpQuiet_nil ?_
  rintro _ ⟨nq, rfl⟩
  clear hmx hmn hw1 hw2
  go_wp2_with fail
  refine (read1_any (w := W.drewN nq) hcK (L1.out.far (P := fun _ => False) ((Touch.refl _ _).drewN _) (fun _ _ => id)) (S.extract at_ U) hxs k HK.out _ rfl).mono ?_
  rintro e w2 ⟨rfl, l2, t2⟩
  have i2 : IsW w2 B b sb S at_ E T := (H1.out.far (P := fun _ => False) ((Touch.refl _ _).drewN nq) id id (fun _ _ => id)).far t2 HB1.out HB2.out (fun i hi h => by have := HBL.out i h; omega)
  have c0 : w2.cell? ⟨b, 0, none⟩ = some (.pointer (some ⟨sb, 0, none⟩)) := i2.cell
  have c1 : w2.cell? ⟨sb, 1, none⟩ = some (.int .i64 at_) := i2.st.cell 1
  have c2 : w2.cell? ⟨sb, 2, none⟩ = some (.bool E) := i2.st.cell 2
  have z1 : w2.frozen? ⟨sb, 1, none⟩ = false := i2.st.froz 1
  have ck : w2.cell? ⟨w.heap.size, 0, none⟩ = some (.pointer (some ⟨kb, 0, none⟩)) := Touch.cell t2 HKN.out hcK
  have I2 := Lib.hid i2
  have L2 := Lib.hid l2
  have T2 := Lib.hid (show Touch (d.blocks kb) w w2 by
    have h1 := HW.out ▸ TW.out
    exact (((TW.out.mono fun _ _ => False.elim).drewN nq).trans t2))
  clear i2 l2 t2 hcK d0 d1 d2
  have hkU : (at_ : Int) + k ≤ U := by omega
  have hcast : (at_ : Int) + (k : Int) = ((at_ + k : Nat) : Int) := by omega
  obtain ⟨K2, hK2⟩ : ∃ K2 : Int, K2 = (S.size : Int) - ((at_ + k : Nat) : Int) := ⟨_, rfl⟩
  have hv2 : (K2 == 0) = v := by rw [HV.out, Bool.eq_iff_iff, beq_iff_eq, decide_eq_true_eq]; omega
  have HK2 := Lib.hid hK2
  have HCA := Lib.hid hcast
  clear hK2 hcast
  cases E
  · go_wp2_with fail
    go_ret
    have t3 : Touch (fun i => i = sb) w2 (w2.setCell ⟨sb, 1, none⟩ (.int .i64 ((at_ : Int) + k))) := Touch.setCell (P := fun i => i = sb) (Touch.refl _ _) rfl _
    refine ⟨rfl, I2.out.turn t3 (by have := I2.out.st.set 1 (.int .i64 ((at_ : Int) + k)); rw [HCA.out] at this ⊢; exact this) (by omega), ?_, (T2.out.mono fun _ _ h => .inr h).trans (t3.mono fun _ _ h => .inl h)⟩
    rw [HD.out, Bool.false_and, Bool.or_false]
    exact L2.out.far t3 (fun i hi e => HB2.out (e ▸ hi))
  · obtain ⟨w3, hw3⟩ : ∃ w3, w3 = w2.setCell ⟨sb, 1, none⟩ (.int .i64 ((at_ : Int) + k)) := ⟨_, rfl⟩
    have t3 : Touch (fun i => i = sb) w2 w3 := by rw [hw3]; exact Touch.setCell (P := fun i => i = sb) (Touch.refl _ _) rfl _
    have i3 : IsW w3 B b sb S (at_ + k) true T := I2.out.turn t3 (by have := I2.out.st.set 1 (.int .i64 ((at_ : Int) + k)); rw [← hw3, HCA.out] at this; exact this) (by omega)
    have c03 : w3.cell? ⟨b, 0, none⟩ = some (.pointer (some ⟨sb, 0, none⟩)) := i3.cell
    have c23 : w3.cell? ⟨sb, 2, none⟩ = some (.bool true) := i3.st.cell 2
    have ck3 : w3.cell? ⟨w.heap.size, 0, none⟩ = some (.pointer (some ⟨kb, 0, none⟩)) := Touch.cell t3 (by show ¬ w.heap.size = sb; omega) ck
    have I3 := Lib.hid i3
    have L3 := Lib.hid (L2.out.far t3 (fun i hi e => HB2.out (e ▸ hi)))
    have T3 := Lib.hid ((T2.out.mono (Q := fun i => i = sb ∨ d.blocks kb i) fun _ _ h => .inr h).trans (t3.mono fun _ _ h => .inl h))
    have HW3 := Lib.hid hw3
    clear t3 i3 hw3
    go_wp2_with fail
    rw [← HW3.out]
    refine (wleft_any I3.out hS4 K2 (by rw [HK2.out])).mono ?_
    rintro e w4 ⟨rfl, n4, rfl⟩
    have ck4 : (w3.drewN n4).cell? ⟨w.heap.size, 0, none⟩ = some (.pointer (some ⟨kb, 0, none⟩)) := ck3
    cases v
    · go_wp2_with fail
      go_ret
      refine ⟨rfl, I3.out.far (P := fun _ => False) ((Touch.refl _ _).drewN _) id id (fun _ _ => id), ?_, T3.out.drewN _⟩
      rw [HD.out, Bool.and_false, Bool.or_false]
      exact L3.out.far (P := fun _ => False) ((Touch.refl _ _).drewN _) (fun _ _ => id)
    · go_wp2_with fail
      refine (end_any (L3.out.far (P := fun _ => False) ((Touch.refl _ _).drewN _) (fun _ _ => id))).mono ?_
      rintro e w5 ⟨rfl, l5, t5⟩
      have L5 := Lib.hid l5
      have T5 := Lib.hid t5
      clear l5 t5
      go_wp2_with fail
      go_ret
      refine ⟨rfl, (I3.out.far (P := fun _ => False) ((Touch.refl _ _).drewN _) id id (fun _ _ => id)).far T5.out HB1.out HB2.out (fun i hi h => by have := HBL.out i h; omega), ?_, (T3.out.drewN _).trans (T5.out.mono fun _ _ h => .inr h)⟩
      rw [HD.out, Bool.and_true, Bool.or_true]
      exact L5.out

set_option maxHeartbeats 2000000 in
theorem wread_in {w : World} {B b sb at_ kb U : Nat} {S : ByteArray} {E : Bool} {T : List UInt8} {d : LD} (h : IsW w B b sb S at_ E T) (hl : IsL w kb d) (hbl : ∀ i, d.blocks kb i → i < B) (hb1 : ¬ d.blocks kb b) (hb2 : ¬ d.blocks kb sb) (hs : S.size ≤ 1048576) (n : Int) (hn : 0 ≤ n) (hn2 : n ≤ (S.size : Int) - at_) (hU : (U : Int) = at_ + n) (hUl : at_ ≤ U) (hUs : U ≤ S.size) (k : Nat) (hk : k = min (S.extract at_ U).size d.room) (hkx : at_ + k ≤ U) (v : Bool) (hv : v = decide (at_ + k = S.size)) (d' : LD) (hd : d' = { d with I := d.I ++ (S.extract at_ U).data.toList.take d.room, ended := d.ended || (E && v) }) :
    Calls Try.prog 60 #[.pointer (some ⟨b, 0, none⟩), .pointer (some ⟨kb, 0, none⟩), .int .i64 n] w fun e w' => e = .returned (.int .i64 k) ∧ IsW w' B b sb S (at_ + k) E T ∧ IsL w' kb d' ∧ Touch (fun i => i = sb ∨ d.blocks kb i) w w' := by
  have hle := h.le
  have hzB := h.hB
  have hbB := h.hb
  have hsB := h.hs
  have hne := h.ne
  have H := Lib.hid h
  have HL := Lib.hid hl
  have HBL := Lib.hid hbl
  have HB1 := Lib.hid hb1
  have HB2 := Lib.hid hb2
  have HK := Lib.hid hk
  have HV := Lib.hid hv
  have HD := Lib.hid hd
  obtain ⟨L, hL⟩ : ∃ L : Int, L = (S.size : Int) - at_ := ⟨_, rfl⟩
  have hL0 : 0 ≤ L := by omega
  have hS4 : S.size ≤ 4611686018427387903 := by omega
  have hL1 : L ≤ 1048576 := by omega
  have hnL : n ≤ L := by omega
  have hul : (at_ : Int) ≤ (U : Int) := by omega
  have hus : (U : Int) ≤ (S.size : Int) := by omega
  have hxs : (S.extract at_ U).size ≤ 9223372036854775807 := by rw [ByteArray.size_extract]; omega
  obtain ⟨W, hW⟩ : ∃ W, W = w.alloc (.cells #[.pointer (some ⟨kb, 0, none⟩)] 45) := ⟨_, rfl⟩
  have tW : Touch (fun _ => False) w W := by rw [hW]; exact (Touch.refl _ _).alloc _
  have hcK : W.cell? ⟨w.heap.size, 0, none⟩ = some (.pointer (some ⟨kb, 0, none⟩)) := by rw [hW]; exact (Blk.new _ _ _).cell 0
  have hw1 : IsW W B b sb S at_ E T := H.out.far tW id id (fun _ _ => id)
  have H1 := Lib.hid hw1
  have L1 := Lib.hid (HL.out.far tW (fun _ _ => id))
  have TW := Lib.hid tW
  have HKN := Lib.hid (show ¬ d.blocks kb w.heap.size from fun hi => by have := HBL.out _ hi; omega)
  have d0 : W.cell? ⟨b, 0, none⟩ = some (.pointer (some ⟨sb, 0, none⟩)) := hw1.cell
  have d1 : W.cell? ⟨sb, 0, none⟩ = some (.string S) := hw1.st.cell 0
  have d2 : W.cell? ⟨sb, 1, none⟩ = some (.int .i64 at_) := hw1.st.cell 1
  have HLL := Lib.hid hL
  have hmx : max n 0 = n := by omega
  have hmn : min n L = n := by omega
  have hsm : (at_ : Int) + n = (U : Int) := by omega
  have hw1 : IntKind.i64.wrap ((at_ : Int) + n) = (U : Int) := by rw [IntWalk.i64_in _ (by omega)]; omega
  clear h hl hbl hb1 hb2 hk hv hd hw1 tW hL hU
  go_enter Try.func60, Try.ntmps60
  go_wp2_with fail
  rw [← hW]
  have HW := Lib.hid hW
  clear hW
  refine (wmade_any H1.out).mono ?_
  rintro e w' ⟨rfl, rfl⟩
  go_wp2_with fail
  refine wp_region_drew_tail 29 (by kernel_rfl) (by kernel_rfl) ?_
  simp only [List.take_succ_cons, List.take_zero, List.drop_succ_cons, List.drop_zero]
  repeat go_big_quiet_step ((go_at_call 21; exact Calls.quiet_of ((wleft_any (H1.out.far (P := fun _ => False) ((Touch.refl _ _).drewN _) id id (fun _ _ => id)) hS4 L HLL.out).mono fun _ _ ⟨a, m, b⟩ => ⟨a, m, b.symm⟩)))
  refine wpQuiet_nil ?_
  rintro _ ⟨nq, rfl⟩
  clear hmx hmn hw1 hsm
  go_wp2_with fail
  refine (read1_any (w := W.drewN nq) hcK (L1.out.far (P := fun _ => False) ((Touch.refl _ _).drewN _) (fun _ _ => id)) (S.extract at_ U) hxs k HK.out _ rfl).mono ?_
  rintro e w2 ⟨rfl, l2, t2⟩
  have i2 : IsW w2 B b sb S at_ E T := (H1.out.far (P := fun _ => False) ((Touch.refl _ _).drewN nq) id id (fun _ _ => id)).far t2 HB1.out HB2.out (fun i hi h => by have := HBL.out i h; omega)
  have c0 : w2.cell? ⟨b, 0, none⟩ = some (.pointer (some ⟨sb, 0, none⟩)) := i2.cell
  have c1 : w2.cell? ⟨sb, 1, none⟩ = some (.int .i64 at_) := i2.st.cell 1
  have c2 : w2.cell? ⟨sb, 2, none⟩ = some (.bool E) := i2.st.cell 2
  have z1 : w2.frozen? ⟨sb, 1, none⟩ = false := i2.st.froz 1
  have ck : w2.cell? ⟨w.heap.size, 0, none⟩ = some (.pointer (some ⟨kb, 0, none⟩)) := Touch.cell t2 HKN.out hcK
  have I2 := Lib.hid i2
  have L2 := Lib.hid l2
  have T2 := Lib.hid (show Touch (d.blocks kb) w w2 by
    have h1 := HW.out ▸ TW.out
    exact (((TW.out.mono fun _ _ => False.elim).drewN nq).trans t2))
  clear i2 l2 t2 hcK d0 d1 d2
  have hkU : (at_ : Int) + k ≤ U := by omega
  have hcast : (at_ : Int) + (k : Int) = ((at_ + k : Nat) : Int) := by omega
  obtain ⟨K2, hK2⟩ : ∃ K2 : Int, K2 = (S.size : Int) - ((at_ + k : Nat) : Int) := ⟨_, rfl⟩
  have hv2 : (K2 == 0) = v := by rw [HV.out, Bool.eq_iff_iff, beq_iff_eq, decide_eq_true_eq]; omega
  have HK2 := Lib.hid hK2
  have HCA := Lib.hid hcast
  clear hK2 hcast
  cases E
  · go_wp2_with fail
    go_ret
    have t3 : Touch (fun i => i = sb) w2 (w2.setCell ⟨sb, 1, none⟩ (.int .i64 ((at_ : Int) + k))) := Touch.setCell (P := fun i => i = sb) (Touch.refl _ _) rfl _
    refine ⟨rfl, I2.out.turn t3 (by have := I2.out.st.set 1 (.int .i64 ((at_ : Int) + k)); rw [HCA.out] at this ⊢; exact this) (by omega), ?_, (T2.out.mono fun _ _ h => .inr h).trans (t3.mono fun _ _ h => .inl h)⟩
    rw [HD.out, Bool.false_and, Bool.or_false]
    exact L2.out.far t3 (fun i hi e => HB2.out (e ▸ hi))
  · obtain ⟨w3, hw3⟩ : ∃ w3, w3 = w2.setCell ⟨sb, 1, none⟩ (.int .i64 ((at_ : Int) + k)) := ⟨_, rfl⟩
    have t3 : Touch (fun i => i = sb) w2 w3 := by rw [hw3]; exact Touch.setCell (P := fun i => i = sb) (Touch.refl _ _) rfl _
    have i3 : IsW w3 B b sb S (at_ + k) true T := I2.out.turn t3 (by have := I2.out.st.set 1 (.int .i64 ((at_ : Int) + k)); rw [← hw3, HCA.out] at this; exact this) (by omega)
    have c03 : w3.cell? ⟨b, 0, none⟩ = some (.pointer (some ⟨sb, 0, none⟩)) := i3.cell
    have c23 : w3.cell? ⟨sb, 2, none⟩ = some (.bool true) := i3.st.cell 2
    have ck3 : w3.cell? ⟨w.heap.size, 0, none⟩ = some (.pointer (some ⟨kb, 0, none⟩)) := Touch.cell t3 (by show ¬ w.heap.size = sb; omega) ck
    have I3 := Lib.hid i3
    have L3 := Lib.hid (L2.out.far t3 (fun i hi e => HB2.out (e ▸ hi)))
    have T3 := Lib.hid ((T2.out.mono (Q := fun i => i = sb ∨ d.blocks kb i) fun _ _ h => .inr h).trans (t3.mono fun _ _ h => .inl h))
    have HW3 := Lib.hid hw3
    clear t3 i3 hw3
    go_wp2_with fail
    rw [← HW3.out]
    refine (wleft_any I3.out hS4 K2 (by rw [HK2.out])).mono ?_
    rintro e w4 ⟨rfl, n4, rfl⟩
    have ck4 : (w3.drewN n4).cell? ⟨w.heap.size, 0, none⟩ = some (.pointer (some ⟨kb, 0, none⟩)) := ck3
    cases v
    · go_wp2_with fail
      go_ret
      refine ⟨rfl, I3.out.far (P := fun _ => False) ((Touch.refl _ _).drewN _) id id (fun _ _ => id), ?_, T3.out.drewN _⟩
      rw [HD.out, Bool.and_false, Bool.or_false]
      exact L3.out.far (P := fun _ => False) ((Touch.refl _ _).drewN _) (fun _ _ => id)
    · go_wp2_with fail
      refine (end_any (L3.out.far (P := fun _ => False) ((Touch.refl _ _).drewN _) (fun _ _ => id))).mono ?_
      rintro e w5 ⟨rfl, l5, t5⟩
      have L5 := Lib.hid l5
      have T5 := Lib.hid t5
      clear l5 t5
      go_wp2_with fail
      go_ret
      refine ⟨rfl, (I3.out.far (P := fun _ => False) ((Touch.refl _ _).drewN _) id id (fun _ _ => id)).far T5.out HB1.out HB2.out (fun i hi h => by have := HBL.out i h; omega), ?_, (T3.out.drewN _).trans (T5.out.mono fun _ _ h => .inr h)⟩
      rw [HD.out, Bool.and_true, Bool.or_true]
      exact L5.out

set_option maxHeartbeats 2000000 in
theorem wread_out {w : World} {B b sb at_ kb U : Nat} {S : ByteArray} {E : Bool} {T : List UInt8} {d : LD} (h : IsW w B b sb S at_ E T) (hl : IsL w kb d) (hbl : ∀ i, d.blocks kb i → i < B) (hb1 : ¬ d.blocks kb b) (hb2 : ¬ d.blocks kb sb) (hs : S.size ≤ 1048576) (n : Int) (hn2 : (S.size : Int) - at_ < n) (hU : U = S.size) (hUl : at_ ≤ U) (hUs : U ≤ S.size) (k : Nat) (hk : k = min (S.extract at_ U).size d.room) (hkx : at_ + k ≤ U) (v : Bool) (hv : v = decide (at_ + k = S.size)) (d' : LD) (hd : d' = { d with I := d.I ++ (S.extract at_ U).data.toList.take d.room, ended := d.ended || (E && v) }) :
    Calls Try.prog 60 #[.pointer (some ⟨b, 0, none⟩), .pointer (some ⟨kb, 0, none⟩), .int .i64 n] w fun e w' => e = .returned (.int .i64 k) ∧ IsW w' B b sb S (at_ + k) E T ∧ IsL w' kb d' ∧ Touch (fun i => i = sb ∨ d.blocks kb i) w w' := by
  have hle := h.le
  have hzB := h.hB
  have hbB := h.hb
  have hsB := h.hs
  have hne := h.ne
  have H := Lib.hid h
  have HL := Lib.hid hl
  have HBL := Lib.hid hbl
  have HB1 := Lib.hid hb1
  have HB2 := Lib.hid hb2
  have HK := Lib.hid hk
  have HV := Lib.hid hv
  have HD := Lib.hid hd
  obtain ⟨L, hL⟩ : ∃ L : Int, L = (S.size : Int) - at_ := ⟨_, rfl⟩
  have hL0 : 0 ≤ L := by omega
  have hS4 : S.size ≤ 4611686018427387903 := by omega
  have hL1 : L ≤ 1048576 := by omega
  have hnL : L < n := by omega
  have hul : (at_ : Int) ≤ (U : Int) := by omega
  have hus : (U : Int) ≤ (S.size : Int) := by omega
  have hxs : (S.extract at_ U).size ≤ 9223372036854775807 := by rw [ByteArray.size_extract]; omega
  obtain ⟨W, hW⟩ : ∃ W, W = w.alloc (.cells #[.pointer (some ⟨kb, 0, none⟩)] 45) := ⟨_, rfl⟩
  have tW : Touch (fun _ => False) w W := by rw [hW]; exact (Touch.refl _ _).alloc _
  have hcK : W.cell? ⟨w.heap.size, 0, none⟩ = some (.pointer (some ⟨kb, 0, none⟩)) := by rw [hW]; exact (Blk.new _ _ _).cell 0
  have hw1 : IsW W B b sb S at_ E T := H.out.far tW id id (fun _ _ => id)
  have H1 := Lib.hid hw1
  have L1 := Lib.hid (HL.out.far tW (fun _ _ => id))
  have TW := Lib.hid tW
  have HKN := Lib.hid (show ¬ d.blocks kb w.heap.size from fun hi => by have := HBL.out _ hi; omega)
  have d0 : W.cell? ⟨b, 0, none⟩ = some (.pointer (some ⟨sb, 0, none⟩)) := hw1.cell
  have d1 : W.cell? ⟨sb, 0, none⟩ = some (.string S) := hw1.st.cell 0
  have d2 : W.cell? ⟨sb, 1, none⟩ = some (.int .i64 at_) := hw1.st.cell 1
  have HLL := Lib.hid hL
  have hmx : max n 0 = n := by omega
  have hmn : min n L = L := by omega
  have hsm : (at_ : Int) + L = (U : Int) := by omega
  have hw1 : IntKind.i64.wrap ((at_ : Int) + L) = (U : Int) := by rw [IntWalk.i64_in _ (by omega)]; omega
  clear h hl hbl hb1 hb2 hk hv hd hw1 tW hL hU
  go_enter Try.func60, Try.ntmps60
  go_wp2_with fail
  rw [← hW]
  have HW := Lib.hid hW
  clear hW
  refine (wmade_any H1.out).mono ?_
  rintro e w' ⟨rfl, rfl⟩
  go_wp2_with fail
  refine wp_region_drew_tail 29 (by kernel_rfl) (by kernel_rfl) ?_
  simp only [List.take_succ_cons, List.take_zero, List.drop_succ_cons, List.drop_zero]
  repeat go_big_quiet_step ((go_at_call 21; exact Calls.quiet_of ((wleft_any (H1.out.far (P := fun _ => False) ((Touch.refl _ _).drewN _) id id (fun _ _ => id)) hS4 L HLL.out).mono fun _ _ ⟨a, m, b⟩ => ⟨a, m, b.symm⟩)))
  refine wpQuiet_nil ?_
  rintro _ ⟨nq, rfl⟩
  clear hmx hmn hw1 hsm
  go_wp2_with fail
  refine (read1_any (w := W.drewN nq) hcK (L1.out.far (P := fun _ => False) ((Touch.refl _ _).drewN _) (fun _ _ => id)) (S.extract at_ U) hxs k HK.out _ rfl).mono ?_
  rintro e w2 ⟨rfl, l2, t2⟩
  have i2 : IsW w2 B b sb S at_ E T := (H1.out.far (P := fun _ => False) ((Touch.refl _ _).drewN nq) id id (fun _ _ => id)).far t2 HB1.out HB2.out (fun i hi h => by have := HBL.out i h; omega)
  have c0 : w2.cell? ⟨b, 0, none⟩ = some (.pointer (some ⟨sb, 0, none⟩)) := i2.cell
  have c1 : w2.cell? ⟨sb, 1, none⟩ = some (.int .i64 at_) := i2.st.cell 1
  have c2 : w2.cell? ⟨sb, 2, none⟩ = some (.bool E) := i2.st.cell 2
  have z1 : w2.frozen? ⟨sb, 1, none⟩ = false := i2.st.froz 1
  have ck : w2.cell? ⟨w.heap.size, 0, none⟩ = some (.pointer (some ⟨kb, 0, none⟩)) := Touch.cell t2 HKN.out hcK
  have I2 := Lib.hid i2
  have L2 := Lib.hid l2
  have T2 := Lib.hid (show Touch (d.blocks kb) w w2 by
    have h1 := HW.out ▸ TW.out
    exact (((TW.out.mono fun _ _ => False.elim).drewN nq).trans t2))
  clear i2 l2 t2 hcK d0 d1 d2
  have hkU : (at_ : Int) + k ≤ U := by omega
  have hcast : (at_ : Int) + (k : Int) = ((at_ + k : Nat) : Int) := by omega
  obtain ⟨K2, hK2⟩ : ∃ K2 : Int, K2 = (S.size : Int) - ((at_ + k : Nat) : Int) := ⟨_, rfl⟩
  have hv2 : (K2 == 0) = v := by rw [HV.out, Bool.eq_iff_iff, beq_iff_eq, decide_eq_true_eq]; omega
  have HK2 := Lib.hid hK2
  have HCA := Lib.hid hcast
  clear hK2 hcast
  cases E
  · go_wp2_with fail
    go_ret
    have t3 : Touch (fun i => i = sb) w2 (w2.setCell ⟨sb, 1, none⟩ (.int .i64 ((at_ : Int) + k))) := Touch.setCell (P := fun i => i = sb) (Touch.refl _ _) rfl _
    refine ⟨rfl, I2.out.turn t3 (by have := I2.out.st.set 1 (.int .i64 ((at_ : Int) + k)); rw [HCA.out] at this ⊢; exact this) (by omega), ?_, (T2.out.mono fun _ _ h => .inr h).trans (t3.mono fun _ _ h => .inl h)⟩
    rw [HD.out, Bool.false_and, Bool.or_false]
    exact L2.out.far t3 (fun i hi e => HB2.out (e ▸ hi))
  · obtain ⟨w3, hw3⟩ : ∃ w3, w3 = w2.setCell ⟨sb, 1, none⟩ (.int .i64 ((at_ : Int) + k)) := ⟨_, rfl⟩
    have t3 : Touch (fun i => i = sb) w2 w3 := by rw [hw3]; exact Touch.setCell (P := fun i => i = sb) (Touch.refl _ _) rfl _
    have i3 : IsW w3 B b sb S (at_ + k) true T := I2.out.turn t3 (by have := I2.out.st.set 1 (.int .i64 ((at_ : Int) + k)); rw [← hw3, HCA.out] at this; exact this) (by omega)
    have c03 : w3.cell? ⟨b, 0, none⟩ = some (.pointer (some ⟨sb, 0, none⟩)) := i3.cell
    have c23 : w3.cell? ⟨sb, 2, none⟩ = some (.bool true) := i3.st.cell 2
    have ck3 : w3.cell? ⟨w.heap.size, 0, none⟩ = some (.pointer (some ⟨kb, 0, none⟩)) := Touch.cell t3 (by show ¬ w.heap.size = sb; omega) ck
    have I3 := Lib.hid i3
    have L3 := Lib.hid (L2.out.far t3 (fun i hi e => HB2.out (e ▸ hi)))
    have T3 := Lib.hid ((T2.out.mono (Q := fun i => i = sb ∨ d.blocks kb i) fun _ _ h => .inr h).trans (t3.mono fun _ _ h => .inl h))
    have HW3 := Lib.hid hw3
    clear t3 i3 hw3
    go_wp2_with fail
    rw [← HW3.out]
    refine (wleft_any I3.out hS4 K2 (by rw [HK2.out])).mono ?_
    rintro e w4 ⟨rfl, n4, rfl⟩
    have ck4 : (w3.drewN n4).cell? ⟨w.heap.size, 0, none⟩ = some (.pointer (some ⟨kb, 0, none⟩)) := ck3
    cases v
    · go_wp2_with fail
      go_ret
      refine ⟨rfl, I3.out.far (P := fun _ => False) ((Touch.refl _ _).drewN _) id id (fun _ _ => id), ?_, T3.out.drewN _⟩
      rw [HD.out, Bool.and_false, Bool.or_false]
      exact L3.out.far (P := fun _ => False) ((Touch.refl _ _).drewN _) (fun _ _ => id)
    · go_wp2_with fail
      refine (end_any (L3.out.far (P := fun _ => False) ((Touch.refl _ _).drewN _) (fun _ _ => id))).mono ?_
      rintro e w5 ⟨rfl, l5, t5⟩
      have L5 := Lib.hid l5
      have T5 := Lib.hid t5
      clear l5 t5
      go_wp2_with fail
      go_ret
      refine ⟨rfl, (I3.out.far (P := fun _ => False) ((Touch.refl _ _).drewN _) id id (fun _ _ => id)).far T5.out HB1.out HB2.out (fun i hi h => by have := HBL.out i h; omega), ?_, (T3.out.drewN _).trans (T5.out.mono fun _ _ h => .inr h)⟩
      rw [HD.out, Bool.and_true, Bool.or_true]
      exact L5.out

theorem wread_any {w : World} {B b sb at_ kb : Nat} {S : ByteArray} {E : Bool} {T : List UInt8} {d : LD} (h : IsW w B b sb S at_ E T) (hl : IsL w kb d) (hbl : ∀ i, d.blocks kb i → i < B) (hb1 : ¬ d.blocks kb b) (hb2 : ¬ d.blocks kb sb) (hs : S.size ≤ 1048576) (n : Int) (U : Nat) (hU : U = min S.size (at_ + n.toNat)) (k : Nat) (hk : k = min (S.extract at_ U).size d.room) (v : Bool) (hv : v = decide (at_ + k = S.size)) (d' : LD) (hd : d' = { d with I := d.I ++ (S.extract at_ U).data.toList.take d.room, ended := d.ended || (E && v) }) :
    Calls Try.prog 60 #[.pointer (some ⟨b, 0, none⟩), .pointer (some ⟨kb, 0, none⟩), .int .i64 n] w fun e w' => e = .returned (.int .i64 k) ∧ IsW w' B b sb S (at_ + k) E T ∧ IsL w' kb d' ∧ Touch (fun i => i = sb ∨ d.blocks kb i) w w' := by
  have hle := h.le
  have hkx : at_ + k ≤ U := by
    have h1 : (S.extract at_ U).size = min U S.size - at_ := ByteArray.size_extract
    omega
  by_cases h0 : n < 0
  · exact wread_neg h hl hbl hb1 hb2 hs n h0 (by omega) (by omega) (by omega) k hk hkx v hv d' hd
  by_cases h1 : n ≤ (S.size : Int) - at_
  · exact wread_in h hl hbl hb1 hb2 hs n (by omega) h1 (by omega) (by omega) (by omega) k hk hkx v hv d' hd
  · exact wread_out h hl hbl hb1 hb2 hs n (by omega) (by omega) (by omega) (by omega) k hk hkx v hv d' hd
set_option maxHeartbeats 1000000 in
theorem wgrant_any {w : World} {B b sb at_ kb : Nat} {S : ByteArray} {E : Bool} {T : List UInt8} {d : LD} (h : IsW w B b sb S at_ E T) (hl : IsL w kb d) (hbl : ∀ i, d.blocks kb i → i < B) (hb1 : ¬ d.blocks kb b) (hb2 : ¬ d.blocks kb sb) (n : Int) (hn : n ≤ 9223372036854775807) (hn0 : -9223372036854775808 ≤ n) (hm : d.more.size ≤ 4611686018427387903) (x : ByteArray) (hx : x.data.toList = (d.O ++ d.more.data.toList).take n.toNat) (hT : T.length + x.size ≤ 140737488355328) (d' : LD) (hd : d' = (d.took n).fill) :
    Calls Try.prog 67 #[.pointer (some ⟨b, 0, none⟩), .pointer (some ⟨kb, 0, none⟩), .int .i64 n] w fun e w' => e = .returned (.int .i64 x.size) ∧ IsW w' B b sb S at_ E (T ++ x.data.toList) ∧ IsL w' kb d' ∧ Touch (fun i => i = b ∨ d.blocks kb i ∨ Row w B i) w w' := by
  have H := Lib.hid h
  have HL := Lib.hid hl
  have HBL := Lib.hid hbl
  have HB1 := Lib.hid hb1
  have HB2 := Lib.hid hb2
  have HX := Lib.hid hx
  have HD := Lib.hid hd
  clear h hl hbl hb1 hb2 hx hd
  go_enter Try.func67, Try.ntmps67
  go_wp2_with fail
  refine (wmade_any H.out).mono ?_
  rintro e w' ⟨rfl, rfl⟩
  go_wp2_with fail
  refine (ltake_any HL.out n hn hn0 hm x HX.out).mono ?_
  rintro e w2 ⟨rfl, l2, t2⟩
  rw [← HD.out] at l2
  have i2 := H.out.far t2 HB1.out HB2.out (fun i hi h => by have := HBL.out i h; omega)
  have L2 := Lib.hid l2
  have I2 := Lib.hid i2
  have T2 := Lib.hid t2
  clear l2 i2 t2
  go_wp2_with fail
  obtain ⟨p, v, hb⟩ := I2.out.bl
  refine (writeString_any hb I2.out.hb I2.out.hB x hT).mono ?_
  rintro e w3 ⟨rfl, h3, t3⟩
  have H3 := Lib.hid h3
  have T3 := Lib.hid t3
  clear h3 t3 hb
  go_wp2_with fail
  go_ret
  obtain ⟨p', v', h3⟩ := H3.out
  have hne := I2.out.ne
  have hsB := I2.out.hs
  refine ⟨rfl, ⟨I2.out.st.touch T3.out (fun h => h.elim (fun e => hne e.symm) (fun h => by have := h.1; omega)), ⟨p', v', h3⟩, I2.out.le, I2.out.hb, I2.out.hs, Nat.le_trans I2.out.hB T3.out.size⟩, L2.out.far T3.out ?_, (T2.out.mono (Q := fun i => i = b ∨ d.blocks kb i ∨ Row w B i) fun _ _ h => .inr (.inl h)).trans' T3.out (fun i hi h => h.elim .inl (fun h => .inr (.inr (h.back T2.out hi (fun e => by have := HBL.out i e; have := h.1; omega)))))⟩
  intro i hi hp
  have hi' : d.blocks kb i := by
    rw [HD.out] at hi
    exact hi
  rcases hp with rfl | hp
  · exact HB1.out hi'
  · have := HBL.out i hi'
    have := hp.1
    omega

end Go.Proofs.Ytekbmefdaepgcaa
