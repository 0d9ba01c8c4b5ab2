/- Texts packed for one claim, 42 of 49: BdQ Gath BodyNoneL. -/
import Derived.Test.YtbglakhojbhfbaaGreatDoorEncodeBackQ32
import Derived.Test.YtbglakhojbhfbaaGreatDoorEncodeBackQ36
import Derived.Test.YtbglakhojbhfbaaGreatDoorEncodeBackQ8
set_option linter.unusedSimpArgs false
set_option linter.unusedVariables false
-- BdQ
namespace Go.Proofs.YtbglakhojbhfbaaGreatDoor
open Go.RowKit
set_option maxRecDepth 100000 in
theorem bfeed_nil (S : ByteArray) (w : World) : Calls Tryz.prog 8 #[.pointer none, .string S] w fun e w' => e = .returned (.tuple #[.int .i64 0, .slice none 0 0]) ∧ w = w' := by
  by_cases hS : (0 : Int) < (S.size : Int)
  · have hk1 : decide ((0 : Int) < (S.size : Int)) = true := decide_eq_true hS
    have hk2 : decide (0 < S.size) = true := decide_eq_true (by omega)
    clear hS
    go_enter Tryz.func8, Tryz.ntmps8
    go_wp2_with fail
    go_loopw [4] (fun u4 wr => u4 = .int .i64 0 ∧ wr = w) (fun _ _ => 0)
    case atStart => exact ⟨rfl, rfl⟩
    case round =>
      obtain ⟨rfl, rfl⟩ := hrel
      go_wp2_with (first | (go_at_call 32; refine (bopen_nil _).mono ?_; rintro e1 w1 ⟨rfl, rfl⟩) | (go_at_call 33; refine (btold_nil _).mono ?_; rintro e2 w2 ⟨rfl, rfl⟩))
      go_ret2
      exact ⟨rfl, rfl⟩
  · have hk1 : decide ((0 : Int) < (S.size : Int)) = false := decide_eq_false hS
    have hk2 : decide (0 < S.size) = false := decide_eq_false (by omega)
    clear hS
    go_enter Tryz.func8, Tryz.ntmps8
    go_wp2_with fail
    go_loopw [4] (fun u4 wr => u4 = .int .i64 0 ∧ wr = w) (fun _ _ => 0)
    case atStart => exact ⟨rfl, rfl⟩
    case round =>
      obtain ⟨rfl, rfl⟩ := hrel
      go_wp2_with (go_at_call 33; refine (btold_nil _).mono ?_; rintro e2 w2 ⟨rfl, rfl⟩)
      go_ret2
      exact ⟨rfl, rfl⟩
set_option maxRecDepth 100000 in
theorem bclose_nil (w : World) : Calls Tryz.prog 9 #[.pointer none] w fun e w' => e = .returned (.slice none 0 0) ∧ w = w' := by
  go_enter Tryz.func9, Tryz.ntmps9
  go_wp2_with (first | (go_at_call 32; refine (bopen_nil _).mono ?_; rintro e1 w1 ⟨rfl, rfl⟩) | (go_at_call 33; refine (btold_nil _).mono ?_; rintro e2 w2 ⟨rfl, rfl⟩))
  go_ret
  exact ⟨rfl, rfl⟩
set_option maxRecDepth 100000 in
theorem btrailers_nil (w : World) : Calls Tryz.prog 13 #[.pointer none] w fun e w' => e = .returned (.slice none 0 0) ∧ w = w' := by
  go_enter Tryz.func13, Tryz.ntmps13
  go_wp2_with (go_at_call 36; refine (bdone_nil _).mono ?_; rintro e1 w1 ⟨rfl, rfl⟩)
  go_ret
  exact ⟨rfl, rfl⟩
set_option maxRecDepth 100000 in
theorem bclose_any {w : World} {D n0 : Nat} {m : Lm} {s : BdS} {V : BdV} (h : BdAt w D n0 m s V) (hl : s.out.length ≤ 1000000) :
    Calls Tryz.prog 9 #[.pointer (some ⟨D, 0, none⟩)] w fun e w' => ∃ vo V', e = .returned vo ∧ BdAt w' D n0 m (bTold (bClose s)) V' ∧ OwnPc w' n0 vo (bClose s).out ∧ BdGo w w' D V V' ∧ V'.vo = .slice none 0 0 ∧ (s.opens = false → vo = V.vo) := by
  have y11 : w.cell? ⟨D, 11, none⟩ = some (.bool s.till) := h.k.cell 11
  have H := Lib.hid h
  have HL := Lib.hid hl
  have HOP := Lib.hid (bopen_any h)
  cases ho : s.opens with
  | false =>
    have hc : bClose s = s := by unfold bClose; rw [if_neg (by rw [ho]; decide)]
    rw [hc]
    rw [ho] at HOP
    clear h hl hc ho
    go_enter Tryz.func9, Tryz.ntmps9
    go_wp2_with (first | (go_at_call 32; refine HOP.out.mono ?_; rintro e1 w1 ⟨rfl, rfl⟩) | (go_at_call 33; refine (btold_any H.out).mono ?_; rintro e2 w2 ⟨rfl, h2, o2, g2⟩; have H2 := Lib.hid h2; have O2 := Lib.hid o2; have G2 := Lib.hid g2; clear h2 o2 g2))
    go_ret
    exact ⟨_, _, rfl, H2.out, O2.out, G2.out, rfl, fun _ => rfl⟩
  | true =>
    rw [ho] at HOP
    cases ht : s.till with
    | true =>
      have hc : bClose s = s.ends := by unfold bClose; rw [if_pos ho, if_pos ht]
      rw [hc]
      rw [ht] at y11
      clear h hl hc ho ht
      go_enter Tryz.func9, Tryz.ntmps9
      go_wp2_with (first | (go_at_call 32; refine HOP.out.mono ?_; rintro e1 w1 ⟨rfl, rfl⟩) | (go_at_call 34; refine (bends_any H.out HL.out).mono ?_; rintro e3 w3 ⟨rfl, vo3, h3, g3⟩; have H3 := Lib.hid h3; have G3 := Lib.hid g3; clear h3 g3) | (go_at_call 33; refine (btold_any H3.out).mono ?_; rintro e2 w2 ⟨rfl, h2, o2, g2⟩; have H2 := Lib.hid h2; have O2 := Lib.hid o2; have G2 := Lib.hid g2; clear h2 o2 g2))
      go_ret
      exact ⟨_, _, rfl, H2.out, O2.out, G3.out.trans G2.out, rfl, fun e => (by cases e)⟩
    | false =>
      have hc : bClose s = s.wrong 19 := by unfold bClose; rw [if_pos ho, if_neg (by rw [ht]; decide)]
      rw [hc]
      rw [ht] at y11
      clear h hl hc ho ht
      go_enter Tryz.func9, Tryz.ntmps9
      go_wp2_with (first | (go_at_call 32; refine HOP.out.mono ?_; rintro e1 w1 ⟨rfl, rfl⟩) | (go_at_call 35; refine (bwrong_any H.out HL.out 19 (by decide)).mono ?_; rintro e3 w3 ⟨rfl, vo3, h3, g3⟩; have H3 := Lib.hid h3; have G3 := Lib.hid g3; clear h3 g3) | (go_at_call 33; refine (btold_any H3.out).mono ?_; rintro e2 w2 ⟨rfl, h2, o2, g2⟩; have H2 := Lib.hid h2; have O2 := Lib.hid o2; have G2 := Lib.hid g2; clear h2 o2 g2))
      go_ret
      exact ⟨_, _, rfl, H2.out, O2.out, G3.out.trans G2.out, rfl, fun e => (by cases e)⟩
set_option maxRecDepth 100000 in
theorem btrailers_any {w : World} {D n0 : Nat} {m : Lm} {s : BdS} {V : BdV} (h : BdAt w D n0 m s V) (ht : s.tr.length ≤ 1000000) :
    Calls Tryz.prog 13 #[.pointer (some ⟨D, 0, none⟩)] w fun e w' => ∃ v, e = .returned v ∧ OwnF w' w.heap.size v (if s.over = true then s.tr else []) ∧ Below w.heap.size w w' := by
  have HD := Lib.hid (bdone_any h.k)
  cases ho : s.over with
  | false =>
    rw [ho] at HD
    rw [if_neg (by decide)]
    clear h ho
    go_enter Tryz.func13, Tryz.ntmps13
    go_wp2_with (go_at_call 36; refine HD.out.mono ?_; rintro e1 w1 ⟨rfl, rfl⟩)
    go_ret
    exact ⟨_, rfl, OwnF.start _ _, Below.refl _ _⟩
  | true =>
    rw [ho] at HD
    rw [if_pos rfl]
    obtain ⟨pt, nt, ct, hvt⟩ := OwnF.shape (show OwnF w n0 V.vt s.tr from h.r.t)
    have y10 : w.cell? ⟨D, 10, none⟩ = some (.slice pt nt ct) := (h.k.cell 10).trans (congrArg some hvt)
    have hf : Flds w (.slice pt nt ct) s.tr := by rw [← hvt]; exact OwnF.flds (show OwnF w n0 V.vt s.tr from h.r.t)
    have HC := Lib.hid (clone_any (.slice pt nt ct) s.tr w hf ht)
    clear h ho hf hvt ht
    go_enter Tryz.func13, Tryz.ntmps13
    go_wp2_with (first | (go_at_call 36; refine HD.out.mono ?_; rintro e1 w1 ⟨rfl, rfl⟩) | (go_at_call 37; refine HC.out.mono ?_; rintro e2 w2 ⟨p2, c2, rfl, o2, b2⟩; have O2 := Lib.hid o2; have B2 := Lib.hid b2; clear o2 b2))
    go_ret
    exact ⟨_, rfl, O2.out, B2.out⟩
end Go.Proofs.YtbglakhojbhfbaaGreatDoor
-- Gath
namespace Go.Proofs.YtbglakhojbhfbaaGreatDoor
open Go.RowKit
/-- v is a slice that reads as these pieces. -/
def Pcs (w : World) (v : Value) (l : List Pc) : Prop :=
  ∃ p c, v = .slice p l.length c ∧ ∀ i (h : i < l.length), ∃ b off, p = some ⟨b, off, none⟩ ∧ w.cell? ⟨b, off + 3 * i, none⟩ = some (.int .i64 l[i].k) ∧ w.cell? ⟨b, off + 3 * i + 1, none⟩ = some (.int .i64 l[i].n) ∧ w.cell? ⟨b, off + 3 * i + 2, none⟩ = some (.string l[i].t)
theorem pcFlat_at (l : List Pc) : ∀ (i : Nat) (h : i < l.length), (pcFlat l)[3 * i]? = some (.int .i64 l[i].k) ∧ (pcFlat l)[3 * i + 1]? = some (.int .i64 l[i].n) ∧ (pcFlat l)[3 * i + 2]? = some (.string l[i].t) := by
  induction l with
  | nil => intro i h; exact absurd h (Nat.not_lt_zero _)
  | cons a l ih =>
    intro i h
    have e : pcFlat (a :: l) = .int .i64 a.k :: .int .i64 a.n :: .string a.t :: pcFlat l := rfl
    rw [e]
    cases i with
    | zero => exact ⟨rfl, rfl, rfl⟩
    | succ i =>
      have := ih i (by simpa using h)
      rw [show 3 * (i + 1) = 3 * i + 3 by omega]
      simpa using this
theorem Pcs.of_own {w : World} {B : Nat} {v : Value} {l : List Pc} (h : OwnPc w B v l) : Pcs w v l := by
  obtain ⟨_, h⟩ := h
  rcases h with ⟨rfl, h0⟩ | ⟨g, cap, cur, rfl, _, hg, h1, h2, h3, h4⟩
  · have : l = [] := List.eq_nil_of_length_eq_zero h0
    subst this
    exact ⟨_, _, rfl, fun i hi => absurd hi (Nat.not_lt_zero _)⟩
  · refine ⟨_, cap, rfl, fun i hi => ⟨g, 0, rfl, ?_⟩⟩
    obtain ⟨a, b, c⟩ := pcFlat_at l i hi
    rw [← h4] at a b c
    rw [List.getElem?_take, if_pos (by omega)] at a b c
    simp only [World.cell?, hg, Nat.zero_add]
    simp only [Array.getElem?_toList] at a b c
    exact ⟨a, b, c⟩
theorem Pcs.below {w w' : World} {v : Value} {l : List Pc} (h : Pcs w v l) (hb : Below w.heap.size w w') : Pcs w' v l := by
  obtain ⟨p, c, hv, hc⟩ := h
  refine ⟨p, c, hv, fun i hi => ?_⟩
  obtain ⟨b, off, hp, h1, h2, h3⟩ := hc i hi
  have hlt := World.block_lt_of_cell? w _ h1
  exact ⟨b, off, hp, ((bcell hb) b _ hlt).trans h1, ((bcell hb) b _ hlt).trans h2, ((bcell hb) b _ hlt).trans h3⟩
/-- Row B: the call's own numbers. -/
def OwnI (w : World) (B : Nat) (v : Value) (l : List Int) : Prop := w.ownsRow B 3 1 v l.length (l.map (Value.int .i64))
theorem OwnI.start (w : World) (B : Nat) : OwnI w B (.slice none 0 0) [] := World.ownsRow_nil _ _ _ _
theorem OwnI.shape {w : World} {B : Nat} {v : Value} {l : List Int} (h : OwnI w B v l) : ∃ p c, v = .slice p l.length c := by
  obtain ⟨_, h⟩ := h
  rcases h with ⟨rfl, h0⟩ | ⟨g, cap, cur, rfl, _⟩
  · exact ⟨_, _, by rw [h0]⟩
  · exact ⟨_, _, rfl⟩
theorem OwnI.call {w w1 : World} {B : Nat} {v : Value} {l : List Int} (h : OwnI w B v l) (hb : Below w.heap.size w w1) : OwnI w1 B v l := own_touch h (P := fun _ => False) (Touch.of_below hb) (fun _ _ => id)
theorem OwnI.nums {w : World} {B : Nat} {v : Value} {l : List Int} (h : OwnI w B v l) : Nums w v l := Nums.of_own h
theorem info_intc : (Tryz.prog.info? 3).map (fun i => (i.zero, i.size, i.bytes)) = some (some (.int .i64 0), 1, 8) := by kernel_rfl
theorem wpList_push_int {ops : Array Oper} {rest : List Oper} {o : Oper} {a : Act} {Q : Exit → Act → World → Prop} (hgd : o.guard = none) (s x : Operand)
    (ho : o.op = .call { callee := .builtin .append, args := #[s, x], argTypes := #[24, 24] }) {w : World} {B : Nat} {v : Value} {l : List Int} (hs : a.eval s = v) (hown : OwnI w B v l) (y : Int)
    {bn : Nat} (hx : a.eval x = .slice (some ⟨bn, 0, none⟩) 1 1) (hbn : bn = w.heap.size) (hl : l.length ≤ 1000000) (hB : B ≤ w.heap.size)
    (h : ∀ g c w1, OwnI w1 B (.slice (some ⟨g, 0, none⟩) (l.length + 1) c) (l ++ [y]) → Touch (fun j => v.ownBlock = some j) w w1 → (v.ownBlock = some g ∨ w.heap.size ≤ g) → wpList Tryz.prog ops Q rest (a.put o.dst (.slice (some ⟨g, 0, none⟩) (l.length + 1) c)) w1) :
    wpList Tryz.prog ops Q (o :: rest) a (w.alloc (.cells #[.int .i64 y] 3)) := by
  subst hbn
  obtain ⟨i0, hi, hz0, hz1, hz2⟩ := info_parts info_intc
  have hown' : World.ownsRow (w.alloc (.cells #[.int .i64 y] 3)) B 3 1 v l.length (l.map (Value.int .i64)) := World.ownsRow.alloc hown _
  refine wpList_append_lies _ hgd s x 24 ho B 3 i0 _ 1 8 Tryz.underlying24 hi hz0 hz1 hz2 rfl (by decide) v l.length _ hs hown' ⟨w.heap.size, 0, none⟩ 1 1 [.int .i64 y] hx rfl ?c1 ?c2 (by decide) ?c3 ?c4 ?c5 _ rfl ?_
  case c1 => exact World.news_of_block (cs := #[.int .i64 y]) (t := 3) (fr := (0, 0)) (heap_alloc_new w _)
  case c2 => simp [Value.oneCell']
  case c3 => unfold maxLen; omega
  case c4 => omega
  case c5 => simp; omega
  intro g c w1 hown1 hg hat _
  refine h g c w1 ?_ ?_ ?_
  · show w1.ownsRow B 3 1 _ (l ++ [y]).length _
    rw [List.length_append, List.map_append]
    exact hown1
  · refine ((Touch.refl _ w).alloc (.cells #[.int .i64 y] 3)).trans ⟨hg.os, hg.tape, hg.output, hg.size, fun k hk hne => hg.block k hk (fun e => hne e.symm)⟩
  · rcases hat with h1 | h1
    · exact Or.inl h1
    · right; rw [h1]; simp
/-- What pieces tell. -/
structure Gt where
  body : ByteArray
  sizes : List Int
  at_ : List Int
  over : Bool
  err : Int
  odd : Bool
def Gt.guard (g : Gt) : Gt := if g.over = true ∨ g.err ≠ 0 then { g with odd := true } else g
def Gt.take (g : Gt) (p : Pc) : Gt :=
  if p.k = 2 then { g with sizes := g.sizes ++ [p.n], at_ := g.at_ ++ [(g.body.size : Int)] }
  else if p.k = 3 then { g with odd := g.odd || p.t.toList.isEmpty, body := g.body ++ p.t }
  else if p.k = 4 then { g with over := true }
  else if p.k = 5 then { g with err := p.n }
  else { g with odd := true }
def gStep (g : Gt) (p : Pc) : Gt := g.guard.take p
def gt0 : Gt := ⟨⟨#[]⟩, [], [], false, 0, false⟩
def gathP (l : List Pc) : Gt := l.foldl gStep gt0
theorem gathP_succ (l : List Pc) (k : Nat) (h : k < l.length) : gathP (l.take (k + 1)) = gStep (gathP (l.take k)) l[k] := by
  unfold gathP
  rw [List.take_add_one, List.foldl_append, List.getElem?_eq_getElem h]
  rfl
/-- How many octets pieces have. -/
def totT (l : List Pc) : Nat := (l.map fun p => p.t.size).sum
theorem totT_drop (l : List Pc) (k : Nat) (x : Pc) (h : k < l.length) (hx : l[k] = x) : totT (l.drop k) = x.t.size + totT (l.drop (k + 1)) := by
  rw [List.drop_eq_getElem_cons h, hx]
  rfl
def gtRow (g : Gt) (vs va : Value) : Array Value := #[.string g.body, vs, va, .bool g.over, .int .i64 g.err, .bool g.odd]
def gtZ : Array Value := #[.string ⟨#[]⟩, .slice none 0 0, .slice none 0 0, .bool false, .int .i64 0, .bool false]
structure GtAt (w0 w : World) (R T : Nat) (g : Gt) (vs va : Value) : Prop where
  k : Blk w T (gtRow g vs va) 44
  s : OwnI w w0.heap.size vs g.sizes
  a : OwnI w w0.heap.size va g.at_
  n : ∀ j, vs.ownBlock = some j → va.ownBlock ≠ some j
  b : Below w0.heap.size w0 w
  r : Blk w R gtZ 44
  rT : R ≠ T
  t : w0.heap.size ≤ T
theorem GtAt.nT {w0 w : World} {R T : Nat} {g : Gt} {vs va : Value} (h : GtAt w0 w R T g vs va) : (∀ j, vs.ownBlock = some j → j ≠ T) ∧ (∀ j, va.ownBlock = some j → j ≠ T) := by
  constructor
  · intro j hj e
    obtain ⟨_, cs, hb⟩ := own_ty h.s j hj
    exact hb.ne h.k (by decide) e
  · intro j hj e
    obtain ⟨_, cs, hb⟩ := own_ty h.a j hj
    exact hb.ne h.k (by decide) e
theorem GtAt.nR {w0 w : World} {R T : Nat} {g : Gt} {vs va : Value} (h : GtAt w0 w R T g vs va) : vs.ownBlock ≠ some R ∧ va.ownBlock ≠ some R := by
  constructor
  · intro hj
    obtain ⟨_, cs, hb⟩ := own_ty h.s R hj
    exact hb.ne h.r (by decide) rfl
  · intro hj
    obtain ⟨_, cs, hb⟩ := own_ty h.a R hj
    exact hb.ne h.r (by decide) rfl
theorem GtAt.call {w0 w w1 : World} {R T : Nat} {g : Gt} {vs va : Value} (h : GtAt w0 w R T g vs va) (hb : Below w.heap.size w w1) : GtAt w0 w1 R T g vs va := ⟨h.k.call hb, h.s.call hb, h.a.call hb, h.n, h.b.trans (hb.mono h.b.size), h.r.call hb, h.rT, h.t⟩
theorem GtAt.set {w0 w : World} {R T : Nat} {g g' : Gt} {vs va : Value} (h : GtAt w0 w R T g vs va) (i : Nat) (u : Value) (hr : gtRow g' vs va = (gtRow g vs va).setIfInBounds i u) (hs : g'.sizes = g.sizes) (ha : g'.at_ = g.at_) : GtAt w0 (w.setCell ⟨T, i, none⟩ u) R T g' vs va := by
  have t := (Touch.refl (fun j => j = T) w).setCell (p := ⟨T, i, none⟩) rfl u
  exact ⟨hr ▸ h.k.set i u, hs ▸ own_touch h.s t (fun j hj e => h.nT.1 j hj e), ha ▸ own_touch h.a t (fun j hj e => h.nT.2 j hj e), h.n, h.b.setCell (p := ⟨T, i, none⟩) h.t u, h.r.far (p := ⟨T, i, none⟩) h.rT u, h.rT, h.t⟩
/-- A size more. -/
theorem GtAt.size {w0 w w1 : World} {R T : Nat} {g : Gt} {vs va : Value} (h : GtAt w0 w R T g vs va) {g1 c : Nat} {y : Int} (o : OwnI w1 w0.heap.size (.slice (some ⟨g1, 0, none⟩) (g.sizes.length + 1) c) (g.sizes ++ [y])) (t : Touch (fun j => vs.ownBlock = some j) w w1) (hg : vs.ownBlock = some g1 ∨ w.heap.size ≤ g1) :
    Blk w1 T (gtRow g vs va) 44 ∧ GtAt w0 (w1.setCell ⟨T, 1, none⟩ (.slice (some ⟨g1, 0, none⟩) (g.sizes.length + 1) c)) R T { g with sizes := g.sizes ++ [y] } (.slice (some ⟨g1, 0, none⟩) (g.sizes.length + 1) c) va := by
  have k1 := h.k.touch t (fun e => h.nT.1 T e rfl)
  have r1 := h.r.touch t h.nR.1
  have a1 : OwnI w1 w0.heap.size va g.at_ := own_touch h.a t (fun j hj e => h.n j e hj)
  have t2 := (Touch.refl (fun j => j = T) w1).setCell (p := ⟨T, 1, none⟩) rfl (.slice (some ⟨g1, 0, none⟩) (g.sizes.length + 1) c)
  have hgT : g1 ≠ T := fun e => by
    rcases hg with hg | hg
    · exact h.nT.1 g1 hg e
    · have := h.k.lt; omega
  have b1 : Below w0.heap.size w0 w1 := h.b.trans (t.below (fun j _ hj => (own_ty h.s j hj).1) h.b.size)
  refine ⟨k1, ⟨k1.set 1 _, own_touch o t2 (fun j hj e => ?_), own_touch a1 t2 (fun j hj e => h.nT.2 j hj e), fun j hj => ?_, b1.setCell (p := ⟨T, 1, none⟩) h.t _, r1.far (p := ⟨T, 1, none⟩) h.rT _, h.rT, h.t⟩⟩
  · cases hj; exact hgT e
  · cases hj
    intro hj
    rcases hg with hg | hg
    · exact h.n g1 hg hj
    · have h1 := own_ty h.a g1 hj
      obtain ⟨_, cs, hb⟩ := h1
      have := hb.lt
      omega
/-- A place more. -/
theorem GtAt.place {w0 w w1 : World} {R T : Nat} {g : Gt} {vs va : Value} (h : GtAt w0 w R T g vs va) {g1 c : Nat} {y : Int} (o : OwnI w1 w0.heap.size (.slice (some ⟨g1, 0, none⟩) (g.at_.length + 1) c) (g.at_ ++ [y])) (t : Touch (fun j => va.ownBlock = some j) w w1) (hg : va.ownBlock = some g1 ∨ w.heap.size ≤ g1) :
    Blk w1 T (gtRow g vs va) 44 ∧ GtAt w0 (w1.setCell ⟨T, 2, none⟩ (.slice (some ⟨g1, 0, none⟩) (g.at_.length + 1) c)) R T { g with at_ := g.at_ ++ [y] } vs (.slice (some ⟨g1, 0, none⟩) (g.at_.length + 1) c) := by
  have k1 := h.k.touch t (fun e => h.nT.2 T e rfl)
  have r1 := h.r.touch t h.nR.2
  have a1 : OwnI w1 w0.heap.size vs g.sizes := own_touch h.s t (fun j hj e => h.n j hj e)
  have t2 := (Touch.refl (fun j => j = T) w1).setCell (p := ⟨T, 2, none⟩) rfl (.slice (some ⟨g1, 0, none⟩) (g.at_.length + 1) c)
  have hgT : g1 ≠ T := fun e => by
    rcases hg with hg | hg
    · exact h.nT.2 g1 hg e
    · have := h.k.lt; omega
  have b1 : Below w0.heap.size w0 w1 := h.b.trans (t.below (fun j _ hj => (own_ty h.a j hj).1) h.b.size)
  refine ⟨k1, ⟨k1.set 2 _, own_touch a1 t2 (fun j hj e => h.nT.1 j hj e), own_touch o t2 (fun j hj e => ?_), fun j hj hj2 => ?_, b1.setCell (p := ⟨T, 2, none⟩) h.t _, r1.far (p := ⟨T, 2, none⟩) h.rT _, h.rT, h.t⟩⟩
  · cases hj; exact hgT e
  · cases hj2
    rcases hg with hg | hg
    · exact h.n g1 hj hg
    · obtain ⟨_, cs, hb⟩ := own_ty h.s g1 hj
      have := hb.lt
      omega
theorem gt_start (w : World) : GtAt w ((w.alloc (.cells gtZ 44)).alloc (.cells gtZ 44)) w.heap.size (w.heap.size + 1) gt0 (.slice none 0 0) (.slice none 0 0) :=
  ⟨Blk.new' (by simp), OwnI.start _ _, OwnI.start _ _, fun _ h => (by cases h), ((Below.refl _ _).alloc (Nat.le_refl _) _).alloc (by simp) _, (Blk.new w _ _).alloc _, by omega, by omega⟩

set_option maxRecDepth 100000 in
set_option maxHeartbeats 8000000 in
theorem gather_any (v : Value) (l : List Pc) (w : World) (h : Pcs w v l) (hl : l.length ≤ 1000000) (ht : totT l ≤ 1000000000) :
    Calls Tryz.prog 10 #[v] w fun e w' => ∃ vs va, e = .returned (.agg (gtRow (gathP l) vs va)) ∧ OwnI w' w.heap.size vs (gathP l).sizes ∧ OwnI w' w.heap.size va (gathP l).at_ ∧ Below w.heap.size w w' := by
  obtain ⟨p, c, rfl, hc⟩ := h
  have HC := Lib.hid hc
  have HZ := Lib.hid hl
  have HTT := Lib.hid ht
  clear hc hl ht
  go_enter Tryz.func10, Tryz.ntmps10
  go_upto_region 2 with fail
  refine wp_here 2 ?_
  intro W0 hW0
  have hS : GtAt w W0 w.heap.size (w.heap.size + 1) gt0 (.slice none 0 0) (.slice none 0 0) := by rw [hW0]; exact gt_start w
  have HS0 := Lib.hid hS
  clear hW0 hS
  generalize w.heap.size + 1 = T at HS0 ⊢
  go_wp2_with fail
  go_loopw [9] (fun u9 wr => ∃ (k : Nat) (g : Gt) (vs va : Value), k ≤ l.length ∧ u9 = .int .i64 k ∧ g = gathP (l.take k) ∧ GtAt w wr w.heap.size T g vs va ∧ g.sizes.length ≤ k ∧ g.at_.length ≤ k ∧ g.body.size + totT (l.drop k) ≤ 1000000000) (fun u9 _ => l.length - (intOf u9).toNat)
  case atStart => exact ⟨0, gt0, _, _, Nat.zero_le _, rfl, rfl, HS0.out, Nat.le_refl _, Nat.le_refl _, by rw [List.drop_zero]; show 0 + _ ≤ _; rw [Nat.zero_add]; exact HTT.out⟩
  case round =>
    obtain ⟨k, g, vs, va, hk, rfl, hg, hat, hsl, hal, hbd⟩ := hrel
    have HG := Lib.hid hg
    have HA := Lib.hid hat
    have HSL := Lib.hid hsl
    have HAL := Lib.hid hal
    have HBD := Lib.hid hbd
    clear hg hat hsl hal hbd
    by_cases hlt : k < l.length
    · have hk1 : decide ((k : Int) < (l.length : Int)) = true := decide_eq_true (by omega)
      have hk2 : decide (k < l.length) = true := decide_eq_true hlt
      obtain ⟨b, off, rfl, c0, c1, c2⟩ := HC.out k hlt
      have hblt := World.block_lt_of_cell? w _ c0
      have q0 := ((bcell HA.out.b) b (off + 3 * k) hblt).trans c0
      have q1 := ((bcell HA.out.b) b (off + 3 * k + 1) hblt).trans c1
      have q2 := ((bcell HA.out.b) b (off + 3 * k + 2) hblt).trans c2
      obtain ⟨x, hx⟩ : ∃ x, x = l[k] := ⟨_, rfl⟩
      rw [← hx] at q0 q1 q2
      obtain ⟨pk, pn, pt⟩ := x
      have HLT := Lib.hid hlt
      have HX := Lib.hid (show l[k] = ⟨pk, pn, pt⟩ from hx.symm)
      have hkb : k ≤ 999999 := by have := HZ.out; omega
      clear c0 c1 c2 hx hblt hlt hk
      simp only at q0 q1 q2
      have hbd := HBD.out
      rw [totT_drop l k _ HLT.out HX.out] at hbd
      simp only at hbd
      have HBE := Lib.hid hbd
      clear hbd
      rw [show off + 3 * k = off + k * 3 by omega] at q0 q1 q2
      go_upto_region 5 with fail
      refine wp_here 5 ?_
      intro W hW
      have hAW : GtAt w W w.heap.size T g vs va := by rw [hW]; exact HA.out.call ((Below.refl _ _).alloc (Nat.le_refl _) _)
      have hPW : Blk W wr.heap.size #[.int .i64 pk, .int .i64 pn, .string pt] 79 := by rw [hW]; exact Blk.new wr _ _
      have HAW := Lib.hid hAW
      have HPW := Lib.hid hPW
      clear hW q0 q1 q2 hAW hPW
      generalize wr.heap.size = P at HPW ⊢
      have y0 : W.cell? ⟨T, 0, none⟩ = some (.string g.body) := HAW.out.k.cell 0
      have y1 : W.cell? ⟨T, 1, none⟩ = some vs := HAW.out.k.cell 1
      have y2 : W.cell? ⟨T, 2, none⟩ = some va := HAW.out.k.cell 2
      have y3 : W.cell? ⟨T, 3, none⟩ = some (.bool g.over) := HAW.out.k.cell 3
      have y4 : W.cell? ⟨T, 4, none⟩ = some (.int .i64 g.err) := HAW.out.k.cell 4
      have y5 : W.cell? ⟨T, 5, none⟩ = some (.bool g.odd) := HAW.out.k.cell 5
      have z0 : W.frozen? ⟨T, 0, none⟩ = false := HAW.out.k.froz 0
      have z1 : W.frozen? ⟨T, 1, none⟩ = false := HAW.out.k.froz 1
      have z2 : W.frozen? ⟨T, 2, none⟩ = false := HAW.out.k.froz 2
      have z3 : W.frozen? ⟨T, 3, none⟩ = false := HAW.out.k.froz 3
      have z4 : W.frozen? ⟨T, 4, none⟩ = false := HAW.out.k.froz 4
      have z5 : W.frozen? ⟨T, 5, none⟩ = false := HAW.out.k.froz 5
      cases hov : g.over with
      | true =>
        rw [hov] at y3
        go_upto_region 7 with fail
        refine wp_here 7 ?_
        intro W1 hW1
        have hG1 : g.guard = { g with odd := true } := by unfold Gt.guard; rw [hov, if_pos (Or.inl rfl)]
        have hA1 : GtAt w W1 w.heap.size T { g with odd := true } vs va := by rw [hW1]; exact HAW.out.set 5 _ rfl rfl rfl
        have hP1 : Blk W1 P #[.int .i64 pk, .int .i64 pn, .string pt] 79 := by rw [hW1]; exact HPW.out.far (p := ⟨T, 5, none⟩) (HPW.out.ne HAW.out.k (by decide)) _
        obtain ⟨g1, hg1⟩ : ∃ x, x = { g with odd := true } := ⟨_, rfl⟩
        have hSL1 : g1.sizes.length ≤ k := by rw [hg1]; exact HSL.out
        have hAL1 : g1.at_.length ≤ k := by rw [hg1]; exact HAL.out
        have hBE1 : g1.body.size + (pt.size + totT (l.drop (k + 1))) ≤ 1000000000 := by rw [hg1]; exact HBE.out
        have hcc : g1.body.size + pt.size ≤ 1000000000 := by omega
        have HBE1 := Lib.hid hBE1
        have hG0 : g1 = g.guard := by rw [hg1, hG1]
        rw [← hg1] at hA1
        have HA1 := Lib.hid hA1
        have HP1 := Lib.hid hP1
        have HG1 := Lib.hid (show gStep g ⟨pk, pn, pt⟩ = g1.take ⟨pk, pn, pt⟩ by show g.guard.take _ = _; rw [← hG0])
        have HSL1 := Lib.hid hSL1
        have HAL1 := Lib.hid hAL1
        clear hBE1 hW1 hG1 hG0 hA1 hP1 hg1 hSL1 hAL1 HAW HPW HA y0 y1 y2 y3 y4 y5 z0 z1 z2 z3 z4 z5
        obtain ⟨p1, c1, hvs⟩ := HA1.out.s.shape
        obtain ⟨p2, c2, hva⟩ := HA1.out.a.shape
        have HVS := Lib.hid hvs
        have HVA := Lib.hid hva
        clear hvs hva
        have x0 : W1.cell? ⟨P, 0, none⟩ = some (.int .i64 pk) := HP1.out.cell 0
        have x1 : W1.cell? ⟨P, 1, none⟩ = some (.int .i64 pn) := HP1.out.cell 1
        have x2 : W1.cell? ⟨P, 2, none⟩ = some (.string pt) := HP1.out.cell 2
        have y0 : W1.cell? ⟨T, 0, none⟩ = some (.string g1.body) := HA1.out.k.cell 0
        have y1 : W1.cell? ⟨T, 1, none⟩ = some vs := HA1.out.k.cell 1
        have y2 : W1.cell? ⟨T, 2, none⟩ = some va := HA1.out.k.cell 2
        have y3 : W1.cell? ⟨T, 3, none⟩ = some (.bool g1.over) := HA1.out.k.cell 3
        have y4 : W1.cell? ⟨T, 4, none⟩ = some (.int .i64 g1.err) := HA1.out.k.cell 4
        have y5 : W1.cell? ⟨T, 5, none⟩ = some (.bool g1.odd) := HA1.out.k.cell 5
        have z0 : W1.frozen? ⟨T, 0, none⟩ = false := HA1.out.k.froz 0
        have z1 : W1.frozen? ⟨T, 1, none⟩ = false := HA1.out.k.froz 1
        have z2 : W1.frozen? ⟨T, 2, none⟩ = false := HA1.out.k.froz 2
        have z3 : W1.frozen? ⟨T, 3, none⟩ = false := HA1.out.k.froz 3
        have z4 : W1.frozen? ⟨T, 4, none⟩ = false := HA1.out.k.froz 4
        have z5 : W1.frozen? ⟨T, 5, none⟩ = false := HA1.out.k.froz 5
        by_cases hpk : pk = 2
        · have e2 : (pk == 2) = true := by simp [hpk]
          have e3 : (pk == 3) = false := by simp [hpk]
          have e4 : (pk == 4) = false := by simp [hpk]
          have e5 : (pk == 5) = false := by simp [hpk]
          have y1' : W1.cell? ⟨T, 1, none⟩ = some (.slice p1 g1.sizes.length c1) := y1.trans (congrArg some HVS.out)
          clear y1
          go_wp2_with (first | (at_builtin; (refine wpList_push_int rfl _ _ rfl rfl (show OwnI W1 w.heap.size (.slice p1 g1.sizes.length c1) g1.sizes by rw [← HVS.out]; exact HA1.out.s) pn rfl (by simp) (by have := HSL1.out; have := HLT.out; have := HZ.out; omega) HA1.out.b.size ?_; intro g3 c3 w3 ho3 ht3 hg3; have hq := HA1.out.size ho3 (by rw [HVS.out]; exact ht3) (by rw [HVS.out]; exact hg3); have A3 := Lib.hid hq.2; have m0 : w3.cell? ⟨T, 0, none⟩ = some (.string g1.body) := hq.1.cell 0; have m1 : w3.cell? ⟨T, 1, none⟩ = some vs := hq.1.cell 1; have m2 : w3.cell? ⟨T, 2, none⟩ = some (.slice p2 g1.at_.length c2) := (hq.1.cell 2).trans (congrArg some HVA.out); have n1 := hq.1.froz 1; have n2 := hq.1.froz 2; clear ho3 ht3 hg3 hq)) | (at_builtin; (refine wpList_push_int rfl _ _ rfl rfl (show OwnI (w3.setCell ⟨T, 1, none⟩ (.slice (some ⟨g3, 0, none⟩) (g1.sizes.length + 1) c3)) w.heap.size (.slice p2 g1.at_.length c2) g1.at_ by rw [← HVA.out]; exact A3.out.a) (g1.body.size : Int) rfl (by simp) (by have := HAL1.out; have := HLT.out; have := HZ.out; omega) A3.out.b.size ?_; intro g4 c4 w4 ho4 ht4 hg4; have hq := A3.out.place ho4 (by rw [HVA.out]; exact ht4) (by rw [HVA.out]; exact hg4); have A4 := Lib.hid hq.2; have r2 : w4.cell? ⟨T, 2, none⟩ = some va := hq.1.cell 2; have n22 := hq.1.froz 2; clear ho4 ht4 hg4 hq)))
          go_roundw
          case rel =>
            refine ⟨k + 1, { g1 with sizes := g1.sizes ++ [pn], at_ := g1.at_ ++ [(g1.body.size : Int)] }, _, _, by have := HLT.out; omega, rfl, ?_, A4.out, ?_, ?_, ?_⟩
            · rw [gathP_succ l k HLT.out, ← HG.out]
              refine Eq.trans ?_ (congrArg (gStep g) HX.out).symm
              rw [HG1.out]
              unfold Gt.take
              simp only
              rw [if_pos hpk]
              try rfl
            · show (List.length (_ ++ [_])) ≤ _; rw [List.length_append]; exact Nat.succ_le_succ HSL1.out
            · show (List.length (_ ++ [_])) ≤ _; rw [List.length_append]; exact Nat.succ_le_succ HAL1.out
            · have := HBE1.out; show g1.body.size + _ ≤ _; omega
          case measure =>
            have := HLT.out
            simp [intOf]
            omega
        by_cases hp3 : pk = 3
        · have e2 : (pk == 2) = false := by simp [hp3]
          have e3 : (pk == 3) = true := by simp [hp3]
          have e4 : (pk == 4) = false := by simp [hp3]
          have e5 : (pk == 5) = false := by simp [hp3]
          cases hod : g1.odd with
          | true =>
            rw [hod] at y5
            have HN := Lib.hid (((HA1.out.set 5 (.bool true) (g' := { g1 with odd := true }) rfl rfl rfl)).set 0 (.string (g1.body ++ pt)) (g' := { g1 with odd := true, body := g1.body ++ pt }) rfl rfl rfl)
            go_wp2_with fail
            go_roundw
            case rel =>
              refine ⟨k + 1, { g1 with odd := true, body := g1.body ++ pt }, _, _, by have := HLT.out; omega, rfl, ?_, HN.out, ?_, ?_, ?_⟩
              · rw [gathP_succ l k HLT.out, ← HG.out]
                refine Eq.trans ?_ (congrArg (gStep g) HX.out).symm
                rw [HG1.out]
                unfold Gt.take
                simp only
                rw [if_neg hpk, if_pos hp3]
                rw [hod]
                try rfl
              · exact Nat.le_succ_of_le HSL1.out
              · exact Nat.le_succ_of_le HAL1.out
              · have := HBE1.out; show (g1.body ++ pt).size + _ ≤ _; rw [ByteArray.size_append]; omega
            case measure =>
              have := HLT.out
              simp [intOf]
              omega
          | false =>
            rw [hod] at y5
            by_cases hem : pt.toList.isEmpty = true
            · have hem2 : (pt.toList.isEmpty) = true := hem
              have HN := Lib.hid (((HA1.out.set 5 (.bool true) (g' := { g1 with odd := true }) rfl rfl rfl)).set 0 (.string (g1.body ++ pt)) (g' := { g1 with odd := true, body := g1.body ++ pt }) rfl rfl rfl)
              go_wp2_with fail
              go_roundw
              case rel =>
                refine ⟨k + 1, { g1 with odd := true, body := g1.body ++ pt }, _, _, by have := HLT.out; omega, rfl, ?_, HN.out, ?_, ?_, ?_⟩
                · rw [gathP_succ l k HLT.out, ← HG.out]
                  refine Eq.trans ?_ (congrArg (gStep g) HX.out).symm
                  rw [HG1.out]
                  unfold Gt.take
                  simp only
                  rw [if_neg hpk, if_pos hp3]
                  rw [hod, hem]
                  try rfl
                · exact Nat.le_succ_of_le HSL1.out
                · exact Nat.le_succ_of_le HAL1.out
                · have := HBE1.out; show (g1.body ++ pt).size + _ ≤ _; rw [ByteArray.size_append]; omega
              case measure =>
                have := HLT.out
                simp [intOf]
                omega
            · have hem2 : (pt.toList.isEmpty) = false := Bool.eq_false_iff.2 hem
              have HN := Lib.hid (((HA1.out.set 5 (.bool false) (g' := { g1 with odd := false }) rfl rfl rfl)).set 0 (.string (g1.body ++ pt)) (g' := { g1 with odd := false, body := g1.body ++ pt }) rfl rfl rfl)
              go_wp2_with fail
              go_roundw
              case rel =>
                refine ⟨k + 1, { g1 with odd := false, body := g1.body ++ pt }, _, _, by have := HLT.out; omega, rfl, ?_, HN.out, ?_, ?_, ?_⟩
                · rw [gathP_succ l k HLT.out, ← HG.out]
                  refine Eq.trans ?_ (congrArg (gStep g) HX.out).symm
                  rw [HG1.out]
                  unfold Gt.take
                  simp only
                  rw [if_neg hpk, if_pos hp3]
                  rw [hod, hem2]
                  try rfl
                · exact Nat.le_succ_of_le HSL1.out
                · exact Nat.le_succ_of_le HAL1.out
                · have := HBE1.out; show (g1.body ++ pt).size + _ ≤ _; rw [ByteArray.size_append]; omega
              case measure =>
                have := HLT.out
                simp [intOf]
                omega
        by_cases hp4 : pk = 4
        · have e2 : (pk == 2) = false := by simp [hp4]
          have e3 : (pk == 3) = false := by simp [hp4]
          have e4 : (pk == 4) = true := by simp [hp4]
          have e5 : (pk == 5) = false := by simp [hp4]
          have HN := Lib.hid (HA1.out.set 3 (.bool true) (g' := { g1 with over := true }) rfl rfl rfl)
          go_wp2_with fail
          go_roundw
          case rel =>
            refine ⟨k + 1, { g1 with over := true }, _, _, by have := HLT.out; omega, rfl, ?_, HN.out, ?_, ?_, ?_⟩
            · rw [gathP_succ l k HLT.out, ← HG.out]
              refine Eq.trans ?_ (congrArg (gStep g) HX.out).symm
              rw [HG1.out]
              unfold Gt.take
              simp only
              rw [if_neg hpk, if_neg hp3, if_pos hp4]
              try rfl
            · exact Nat.le_succ_of_le HSL1.out
            · exact Nat.le_succ_of_le HAL1.out
            · have := HBE1.out; show g1.body.size + _ ≤ _; omega
          case measure =>
            have := HLT.out
            simp [intOf]
            omega
        by_cases hp5 : pk = 5
        · have e2 : (pk == 2) = false := by simp [hp5]
          have e3 : (pk == 3) = false := by simp [hp5]
          have e4 : (pk == 4) = false := by simp [hp5]
          have e5 : (pk == 5) = true := by simp [hp5]
          have HN := Lib.hid (HA1.out.set 4 (.int .i64 pn) (g' := { g1 with err := pn }) rfl rfl rfl)
          go_wp2_with fail
          go_roundw
          case rel =>
            refine ⟨k + 1, { g1 with err := pn }, _, _, by have := HLT.out; omega, rfl, ?_, HN.out, ?_, ?_, ?_⟩
            · rw [gathP_succ l k HLT.out, ← HG.out]
              refine Eq.trans ?_ (congrArg (gStep g) HX.out).symm
              rw [HG1.out]
              unfold Gt.take
              simp only
              rw [if_neg hpk, if_neg hp3, if_neg hp4, if_pos hp5]
              try rfl
            · exact Nat.le_succ_of_le HSL1.out
            · exact Nat.le_succ_of_le HAL1.out
            · have := HBE1.out; show g1.body.size + _ ≤ _; omega
          case measure =>
            have := HLT.out
            simp [intOf]
            omega
        have e2 : (pk == 2) = false := by simp [hpk, hp3, hp4, hp5]
        have e3 : (pk == 3) = false := by simp [hpk, hp3, hp4, hp5]
        have e4 : (pk == 4) = false := by simp [hpk, hp3, hp4, hp5]
        have e5 : (pk == 5) = false := by simp [hpk, hp3, hp4, hp5]
        have HN := Lib.hid (HA1.out.set 5 (.bool true) (g' := { g1 with odd := true }) rfl rfl rfl)
        go_wp2_with fail
        go_roundw
        case rel =>
          refine ⟨k + 1, { g1 with odd := true }, _, _, by have := HLT.out; omega, rfl, ?_, HN.out, ?_, ?_, ?_⟩
          · rw [gathP_succ l k HLT.out, ← HG.out]
            refine Eq.trans ?_ (congrArg (gStep g) HX.out).symm
            rw [HG1.out]
            unfold Gt.take
            simp only
            rw [if_neg hpk, if_neg hp3, if_neg hp4, if_neg hp5]
            try rfl
          · exact Nat.le_succ_of_le HSL1.out
          · exact Nat.le_succ_of_le HAL1.out
          · have := HBE1.out; show g1.body.size + _ ≤ _; omega
        case measure =>
          have := HLT.out
          simp [intOf]
          omega
      | false =>
        rw [hov] at y3
        by_cases her : g.err = 0
        · rw [her] at y4
          go_upto_region 7 with fail
          refine wp_here 7 ?_
          intro W1 hW1
          have hG1 : g.guard = g := by unfold Gt.guard; rw [if_neg (by rw [hov, her]; decide)]
          have hA1 : GtAt w W1 w.heap.size T g vs va := by rw [hW1]; exact HAW.out
          have hP1 : Blk W1 P #[.int .i64 pk, .int .i64 pn, .string pt] 79 := by rw [hW1]; exact HPW.out
          obtain ⟨g1, hg1⟩ : ∃ x, x = g := ⟨_, rfl⟩
          have hSL1 : g1.sizes.length ≤ k := by rw [hg1]; exact HSL.out
          have hAL1 : g1.at_.length ≤ k := by rw [hg1]; exact HAL.out
          have hBE1 : g1.body.size + (pt.size + totT (l.drop (k + 1))) ≤ 1000000000 := by rw [hg1]; exact HBE.out
          have hcc : g1.body.size + pt.size ≤ 1000000000 := by omega
          have HBE1 := Lib.hid hBE1
          have hG0 : g1 = g.guard := by rw [hg1, hG1]
          rw [← hg1] at hA1
          have HA1 := Lib.hid hA1
          have HP1 := Lib.hid hP1
          have HG1 := Lib.hid (show gStep g ⟨pk, pn, pt⟩ = g1.take ⟨pk, pn, pt⟩ by show g.guard.take _ = _; rw [← hG0])
          have HSL1 := Lib.hid hSL1
          have HAL1 := Lib.hid hAL1
          clear hBE1 hW1 hG1 hG0 hA1 hP1 hg1 hSL1 hAL1 HAW HPW HA y0 y1 y2 y3 y4 y5 z0 z1 z2 z3 z4 z5
          obtain ⟨p1, c1, hvs⟩ := HA1.out.s.shape
          obtain ⟨p2, c2, hva⟩ := HA1.out.a.shape
          have HVS := Lib.hid hvs
          have HVA := Lib.hid hva
          clear hvs hva
          have x0 : W1.cell? ⟨P, 0, none⟩ = some (.int .i64 pk) := HP1.out.cell 0
          have x1 : W1.cell? ⟨P, 1, none⟩ = some (.int .i64 pn) := HP1.out.cell 1
          have x2 : W1.cell? ⟨P, 2, none⟩ = some (.string pt) := HP1.out.cell 2
          have y0 : W1.cell? ⟨T, 0, none⟩ = some (.string g1.body) := HA1.out.k.cell 0
          have y1 : W1.cell? ⟨T, 1, none⟩ = some vs := HA1.out.k.cell 1
          have y2 : W1.cell? ⟨T, 2, none⟩ = some va := HA1.out.k.cell 2
          have y3 : W1.cell? ⟨T, 3, none⟩ = some (.bool g1.over) := HA1.out.k.cell 3
          have y4 : W1.cell? ⟨T, 4, none⟩ = some (.int .i64 g1.err) := HA1.out.k.cell 4
          have y5 : W1.cell? ⟨T, 5, none⟩ = some (.bool g1.odd) := HA1.out.k.cell 5
          have z0 : W1.frozen? ⟨T, 0, none⟩ = false := HA1.out.k.froz 0
          have z1 : W1.frozen? ⟨T, 1, none⟩ = false := HA1.out.k.froz 1
          have z2 : W1.frozen? ⟨T, 2, none⟩ = false := HA1.out.k.froz 2
          have z3 : W1.frozen? ⟨T, 3, none⟩ = false := HA1.out.k.froz 3
          have z4 : W1.frozen? ⟨T, 4, none⟩ = false := HA1.out.k.froz 4
          have z5 : W1.frozen? ⟨T, 5, none⟩ = false := HA1.out.k.froz 5
          by_cases hpk : pk = 2
          · have e2 : (pk == 2) = true := by simp [hpk]
            have e3 : (pk == 3) = false := by simp [hpk]
            have e4 : (pk == 4) = false := by simp [hpk]
            have e5 : (pk == 5) = false := by simp [hpk]
            have y1' : W1.cell? ⟨T, 1, none⟩ = some (.slice p1 g1.sizes.length c1) := y1.trans (congrArg some HVS.out)
            clear y1
            go_wp2_with (first | (at_builtin; (refine wpList_push_int rfl _ _ rfl rfl (show OwnI W1 w.heap.size (.slice p1 g1.sizes.length c1) g1.sizes by rw [← HVS.out]; exact HA1.out.s) pn rfl (by simp) (by have := HSL1.out; have := HLT.out; have := HZ.out; omega) HA1.out.b.size ?_; intro g3 c3 w3 ho3 ht3 hg3; have hq := HA1.out.size ho3 (by rw [HVS.out]; exact ht3) (by rw [HVS.out]; exact hg3); have A3 := Lib.hid hq.2; have m0 : w3.cell? ⟨T, 0, none⟩ = some (.string g1.body) := hq.1.cell 0; have m1 : w3.cell? ⟨T, 1, none⟩ = some vs := hq.1.cell 1; have m2 : w3.cell? ⟨T, 2, none⟩ = some (.slice p2 g1.at_.length c2) := (hq.1.cell 2).trans (congrArg some HVA.out); have n1 := hq.1.froz 1; have n2 := hq.1.froz 2; clear ho3 ht3 hg3 hq)) | (at_builtin; (refine wpList_push_int rfl _ _ rfl rfl (show OwnI (w3.setCell ⟨T, 1, none⟩ (.slice (some ⟨g3, 0, none⟩) (g1.sizes.length + 1) c3)) w.heap.size (.slice p2 g1.at_.length c2) g1.at_ by rw [← HVA.out]; exact A3.out.a) (g1.body.size : Int) rfl (by simp) (by have := HAL1.out; have := HLT.out; have := HZ.out; omega) A3.out.b.size ?_; intro g4 c4 w4 ho4 ht4 hg4; have hq := A3.out.place ho4 (by rw [HVA.out]; exact ht4) (by rw [HVA.out]; exact hg4); have A4 := Lib.hid hq.2; have r2 : w4.cell? ⟨T, 2, none⟩ = some va := hq.1.cell 2; have n22 := hq.1.froz 2; clear ho4 ht4 hg4 hq)))
            go_roundw
            case rel =>
              refine ⟨k + 1, { g1 with sizes := g1.sizes ++ [pn], at_ := g1.at_ ++ [(g1.body.size : Int)] }, _, _, by have := HLT.out; omega, rfl, ?_, A4.out, ?_, ?_, ?_⟩
              · rw [gathP_succ l k HLT.out, ← HG.out]
                refine Eq.trans ?_ (congrArg (gStep g) HX.out).symm
                rw [HG1.out]
                unfold Gt.take
                simp only
                rw [if_pos hpk]
                try rfl
              · show (List.length (_ ++ [_])) ≤ _; rw [List.length_append]; exact Nat.succ_le_succ HSL1.out
              · show (List.length (_ ++ [_])) ≤ _; rw [List.length_append]; exact Nat.succ_le_succ HAL1.out
              · have := HBE1.out; show g1.body.size + _ ≤ _; omega
            case measure =>
              have := HLT.out
              simp [intOf]
              omega
          by_cases hp3 : pk = 3
          · have e2 : (pk == 2) = false := by simp [hp3]
            have e3 : (pk == 3) = true := by simp [hp3]
            have e4 : (pk == 4) = false := by simp [hp3]
            have e5 : (pk == 5) = false := by simp [hp3]
            cases hod : g1.odd with
            | true =>
              rw [hod] at y5
              have HN := Lib.hid (((HA1.out.set 5 (.bool true) (g' := { g1 with odd := true }) rfl rfl rfl)).set 0 (.string (g1.body ++ pt)) (g' := { g1 with odd := true, body := g1.body ++ pt }) rfl rfl rfl)
              go_wp2_with fail
              go_roundw
              case rel =>
                refine ⟨k + 1, { g1 with odd := true, body := g1.body ++ pt }, _, _, by have := HLT.out; omega, rfl, ?_, HN.out, ?_, ?_, ?_⟩
                · rw [gathP_succ l k HLT.out, ← HG.out]
                  refine Eq.trans ?_ (congrArg (gStep g) HX.out).symm
                  rw [HG1.out]
                  unfold Gt.take
                  simp only
                  rw [if_neg hpk, if_pos hp3]
                  rw [hod]
                  try rfl
                · exact Nat.le_succ_of_le HSL1.out
                · exact Nat.le_succ_of_le HAL1.out
                · have := HBE1.out; show (g1.body ++ pt).size + _ ≤ _; rw [ByteArray.size_append]; omega
              case measure =>
                have := HLT.out
                simp [intOf]
                omega
            | false =>
              rw [hod] at y5
              by_cases hem : pt.toList.isEmpty = true
              · have hem2 : (pt.toList.isEmpty) = true := hem
                have HN := Lib.hid (((HA1.out.set 5 (.bool true) (g' := { g1 with odd := true }) rfl rfl rfl)).set 0 (.string (g1.body ++ pt)) (g' := { g1 with odd := true, body := g1.body ++ pt }) rfl rfl rfl)
                go_wp2_with fail
                go_roundw
                case rel =>
                  refine ⟨k + 1, { g1 with odd := true, body := g1.body ++ pt }, _, _, by have := HLT.out; omega, rfl, ?_, HN.out, ?_, ?_, ?_⟩
                  · rw [gathP_succ l k HLT.out, ← HG.out]
                    refine Eq.trans ?_ (congrArg (gStep g) HX.out).symm
                    rw [HG1.out]
                    unfold Gt.take
                    simp only
                    rw [if_neg hpk, if_pos hp3]
                    rw [hod, hem]
                    try rfl
                  · exact Nat.le_succ_of_le HSL1.out
                  · exact Nat.le_succ_of_le HAL1.out
                  · have := HBE1.out; show (g1.body ++ pt).size + _ ≤ _; rw [ByteArray.size_append]; omega
                case measure =>
                  have := HLT.out
                  simp [intOf]
                  omega
              · have hem2 : (pt.toList.isEmpty) = false := Bool.eq_false_iff.2 hem
                have HN := Lib.hid (((HA1.out.set 5 (.bool false) (g' := { g1 with odd := false }) rfl rfl rfl)).set 0 (.string (g1.body ++ pt)) (g' := { g1 with odd := false, body := g1.body ++ pt }) rfl rfl rfl)
                go_wp2_with fail
                go_roundw
                case rel =>
                  refine ⟨k + 1, { g1 with odd := false, body := g1.body ++ pt }, _, _, by have := HLT.out; omega, rfl, ?_, HN.out, ?_, ?_, ?_⟩
                  · rw [gathP_succ l k HLT.out, ← HG.out]
                    refine Eq.trans ?_ (congrArg (gStep g) HX.out).symm
                    rw [HG1.out]
                    unfold Gt.take
                    simp only
                    rw [if_neg hpk, if_pos hp3]
                    rw [hod, hem2]
                    try rfl
                  · exact Nat.le_succ_of_le HSL1.out
                  · exact Nat.le_succ_of_le HAL1.out
                  · have := HBE1.out; show (g1.body ++ pt).size + _ ≤ _; rw [ByteArray.size_append]; omega
                case measure =>
                  have := HLT.out
                  simp [intOf]
                  omega
          by_cases hp4 : pk = 4
          · have e2 : (pk == 2) = false := by simp [hp4]
            have e3 : (pk == 3) = false := by simp [hp4]
            have e4 : (pk == 4) = true := by simp [hp4]
            have e5 : (pk == 5) = false := by simp [hp4]
            have HN := Lib.hid (HA1.out.set 3 (.bool true) (g' := { g1 with over := true }) rfl rfl rfl)
            go_wp2_with fail
            go_roundw
            case rel =>
              refine ⟨k + 1, { g1 with over := true }, _, _, by have := HLT.out; omega, rfl, ?_, HN.out, ?_, ?_, ?_⟩
              · rw [gathP_succ l k HLT.out, ← HG.out]
                refine Eq.trans ?_ (congrArg (gStep g) HX.out).symm
                rw [HG1.out]
                unfold Gt.take
                simp only
                rw [if_neg hpk, if_neg hp3, if_pos hp4]
                try rfl
              · exact Nat.le_succ_of_le HSL1.out
              · exact Nat.le_succ_of_le HAL1.out
              · have := HBE1.out; show g1.body.size + _ ≤ _; omega
            case measure =>
              have := HLT.out
              simp [intOf]
              omega
          by_cases hp5 : pk = 5
          · have e2 : (pk == 2) = false := by simp [hp5]
            have e3 : (pk == 3) = false := by simp [hp5]
            have e4 : (pk == 4) = false := by simp [hp5]
            have e5 : (pk == 5) = true := by simp [hp5]
            have HN := Lib.hid (HA1.out.set 4 (.int .i64 pn) (g' := { g1 with err := pn }) rfl rfl rfl)
            go_wp2_with fail
            go_roundw
            case rel =>
              refine ⟨k + 1, { g1 with err := pn }, _, _, by have := HLT.out; omega, rfl, ?_, HN.out, ?_, ?_, ?_⟩
              · rw [gathP_succ l k HLT.out, ← HG.out]
                refine Eq.trans ?_ (congrArg (gStep g) HX.out).symm
                rw [HG1.out]
                unfold Gt.take
                simp only
                rw [if_neg hpk, if_neg hp3, if_neg hp4, if_pos hp5]
                try rfl
              · exact Nat.le_succ_of_le HSL1.out
              · exact Nat.le_succ_of_le HAL1.out
              · have := HBE1.out; show g1.body.size + _ ≤ _; omega
            case measure =>
              have := HLT.out
              simp [intOf]
              omega
          have e2 : (pk == 2) = false := by simp [hpk, hp3, hp4, hp5]
          have e3 : (pk == 3) = false := by simp [hpk, hp3, hp4, hp5]
          have e4 : (pk == 4) = false := by simp [hpk, hp3, hp4, hp5]
          have e5 : (pk == 5) = false := by simp [hpk, hp3, hp4, hp5]
          have HN := Lib.hid (HA1.out.set 5 (.bool true) (g' := { g1 with odd := true }) rfl rfl rfl)
          go_wp2_with fail
          go_roundw
          case rel =>
            refine ⟨k + 1, { g1 with odd := true }, _, _, by have := HLT.out; omega, rfl, ?_, HN.out, ?_, ?_, ?_⟩
            · rw [gathP_succ l k HLT.out, ← HG.out]
              refine Eq.trans ?_ (congrArg (gStep g) HX.out).symm
              rw [HG1.out]
              unfold Gt.take
              simp only
              rw [if_neg hpk, if_neg hp3, if_neg hp4, if_neg hp5]
              try rfl
            · exact Nat.le_succ_of_le HSL1.out
            · exact Nat.le_succ_of_le HAL1.out
            · have := HBE1.out; show g1.body.size + _ ≤ _; omega
          case measure =>
            have := HLT.out
            simp [intOf]
            omega
        · have her2 : (g.err != 0) = true := by rw [bne_iff_ne]; exact her
          have her3 : (g.err == 0) = false := by rw [beq_eq_false_iff_ne]; exact her
          go_upto_region 7 with fail
          refine wp_here 7 ?_
          intro W1 hW1
          have hG1 : g.guard = { g with odd := true } := by unfold Gt.guard; rw [if_pos (Or.inr her)]
          have hA1 : GtAt w W1 w.heap.size T { g with odd := true } vs va := by rw [hW1]; exact HAW.out.set 5 _ rfl rfl rfl
          have hP1 : Blk W1 P #[.int .i64 pk, .int .i64 pn, .string pt] 79 := by rw [hW1]; exact HPW.out.far (p := ⟨T, 5, none⟩) (HPW.out.ne HAW.out.k (by decide)) _
          obtain ⟨g1, hg1⟩ : ∃ x, x = { g with odd := true } := ⟨_, rfl⟩
          have hSL1 : g1.sizes.length ≤ k := by rw [hg1]; exact HSL.out
          have hAL1 : g1.at_.length ≤ k := by rw [hg1]; exact HAL.out
          have hBE1 : g1.body.size + (pt.size + totT (l.drop (k + 1))) ≤ 1000000000 := by rw [hg1]; exact HBE.out
          have hcc : g1.body.size + pt.size ≤ 1000000000 := by omega
          have HBE1 := Lib.hid hBE1
          have hG0 : g1 = g.guard := by rw [hg1, hG1]
          rw [← hg1] at hA1
          have HA1 := Lib.hid hA1
          have HP1 := Lib.hid hP1
          have HG1 := Lib.hid (show gStep g ⟨pk, pn, pt⟩ = g1.take ⟨pk, pn, pt⟩ by show g.guard.take _ = _; rw [← hG0])
          have HSL1 := Lib.hid hSL1
          have HAL1 := Lib.hid hAL1
          clear hBE1 hW1 hG1 hG0 hA1 hP1 hg1 hSL1 hAL1 HAW HPW HA y0 y1 y2 y3 y4 y5 z0 z1 z2 z3 z4 z5 her2 her3
          obtain ⟨p1, c1, hvs⟩ := HA1.out.s.shape
          obtain ⟨p2, c2, hva⟩ := HA1.out.a.shape
          have HVS := Lib.hid hvs
          have HVA := Lib.hid hva
          clear hvs hva
          have x0 : W1.cell? ⟨P, 0, none⟩ = some (.int .i64 pk) := HP1.out.cell 0
          have x1 : W1.cell? ⟨P, 1, none⟩ = some (.int .i64 pn) := HP1.out.cell 1
          have x2 : W1.cell? ⟨P, 2, none⟩ = some (.string pt) := HP1.out.cell 2
          have y0 : W1.cell? ⟨T, 0, none⟩ = some (.string g1.body) := HA1.out.k.cell 0
          have y1 : W1.cell? ⟨T, 1, none⟩ = some vs := HA1.out.k.cell 1
          have y2 : W1.cell? ⟨T, 2, none⟩ = some va := HA1.out.k.cell 2
          have y3 : W1.cell? ⟨T, 3, none⟩ = some (.bool g1.over) := HA1.out.k.cell 3
          have y4 : W1.cell? ⟨T, 4, none⟩ = some (.int .i64 g1.err) := HA1.out.k.cell 4
          have y5 : W1.cell? ⟨T, 5, none⟩ = some (.bool g1.odd) := HA1.out.k.cell 5
          have z0 : W1.frozen? ⟨T, 0, none⟩ = false := HA1.out.k.froz 0
          have z1 : W1.frozen? ⟨T, 1, none⟩ = false := HA1.out.k.froz 1
          have z2 : W1.frozen? ⟨T, 2, none⟩ = false := HA1.out.k.froz 2
          have z3 : W1.frozen? ⟨T, 3, none⟩ = false := HA1.out.k.froz 3
          have z4 : W1.frozen? ⟨T, 4, none⟩ = false := HA1.out.k.froz 4
          have z5 : W1.frozen? ⟨T, 5, none⟩ = false := HA1.out.k.froz 5
          by_cases hpk : pk = 2
          · have e2 : (pk == 2) = true := by simp [hpk]
            have e3 : (pk == 3) = false := by simp [hpk]
            have e4 : (pk == 4) = false := by simp [hpk]
            have e5 : (pk == 5) = false := by simp [hpk]
            have y1' : W1.cell? ⟨T, 1, none⟩ = some (.slice p1 g1.sizes.length c1) := y1.trans (congrArg some HVS.out)
            clear y1
            go_wp2_with (first | (at_builtin; (refine wpList_push_int rfl _ _ rfl rfl (show OwnI W1 w.heap.size (.slice p1 g1.sizes.length c1) g1.sizes by rw [← HVS.out]; exact HA1.out.s) pn rfl (by simp) (by have := HSL1.out; have := HLT.out; have := HZ.out; omega) HA1.out.b.size ?_; intro g3 c3 w3 ho3 ht3 hg3; have hq := HA1.out.size ho3 (by rw [HVS.out]; exact ht3) (by rw [HVS.out]; exact hg3); have A3 := Lib.hid hq.2; have m0 : w3.cell? ⟨T, 0, none⟩ = some (.string g1.body) := hq.1.cell 0; have m1 : w3.cell? ⟨T, 1, none⟩ = some vs := hq.1.cell 1; have m2 : w3.cell? ⟨T, 2, none⟩ = some (.slice p2 g1.at_.length c2) := (hq.1.cell 2).trans (congrArg some HVA.out); have n1 := hq.1.froz 1; have n2 := hq.1.froz 2; clear ho3 ht3 hg3 hq)) | (at_builtin; (refine wpList_push_int rfl _ _ rfl rfl (show OwnI (w3.setCell ⟨T, 1, none⟩ (.slice (some ⟨g3, 0, none⟩) (g1.sizes.length + 1) c3)) w.heap.size (.slice p2 g1.at_.length c2) g1.at_ by rw [← HVA.out]; exact A3.out.a) (g1.body.size : Int) rfl (by simp) (by have := HAL1.out; have := HLT.out; have := HZ.out; omega) A3.out.b.size ?_; intro g4 c4 w4 ho4 ht4 hg4; have hq := A3.out.place ho4 (by rw [HVA.out]; exact ht4) (by rw [HVA.out]; exact hg4); have A4 := Lib.hid hq.2; have r2 : w4.cell? ⟨T, 2, none⟩ = some va := hq.1.cell 2; have n22 := hq.1.froz 2; clear ho4 ht4 hg4 hq)))
            go_roundw
            case rel =>
              refine ⟨k + 1, { g1 with sizes := g1.sizes ++ [pn], at_ := g1.at_ ++ [(g1.body.size : Int)] }, _, _, by have := HLT.out; omega, rfl, ?_, A4.out, ?_, ?_, ?_⟩
              · rw [gathP_succ l k HLT.out, ← HG.out]
                refine Eq.trans ?_ (congrArg (gStep g) HX.out).symm
                rw [HG1.out]
                unfold Gt.take
                simp only
                rw [if_pos hpk]
                try rfl
              · show (List.length (_ ++ [_])) ≤ _; rw [List.length_append]; exact Nat.succ_le_succ HSL1.out
              · show (List.length (_ ++ [_])) ≤ _; rw [List.length_append]; exact Nat.succ_le_succ HAL1.out
              · have := HBE1.out; show g1.body.size + _ ≤ _; omega
            case measure =>
              have := HLT.out
              simp [intOf]
              omega
          by_cases hp3 : pk = 3
          · have e2 : (pk == 2) = false := by simp [hp3]
            have e3 : (pk == 3) = true := by simp [hp3]
            have e4 : (pk == 4) = false := by simp [hp3]
            have e5 : (pk == 5) = false := by simp [hp3]
            cases hod : g1.odd with
            | true =>
              rw [hod] at y5
              have HN := Lib.hid (((HA1.out.set 5 (.bool true) (g' := { g1 with odd := true }) rfl rfl rfl)).set 0 (.string (g1.body ++ pt)) (g' := { g1 with odd := true, body := g1.body ++ pt }) rfl rfl rfl)
              go_wp2_with fail
              go_roundw
              case rel =>
                refine ⟨k + 1, { g1 with odd := true, body := g1.body ++ pt }, _, _, by have := HLT.out; omega, rfl, ?_, HN.out, ?_, ?_, ?_⟩
                · rw [gathP_succ l k HLT.out, ← HG.out]
                  refine Eq.trans ?_ (congrArg (gStep g) HX.out).symm
                  rw [HG1.out]
                  unfold Gt.take
                  simp only
                  rw [if_neg hpk, if_pos hp3]
                  rw [hod]
                  try rfl
                · exact Nat.le_succ_of_le HSL1.out
                · exact Nat.le_succ_of_le HAL1.out
                · have := HBE1.out; show (g1.body ++ pt).size + _ ≤ _; rw [ByteArray.size_append]; omega
              case measure =>
                have := HLT.out
                simp [intOf]
                omega
            | false =>
              rw [hod] at y5
              by_cases hem : pt.toList.isEmpty = true
              · have hem2 : (pt.toList.isEmpty) = true := hem
                have HN := Lib.hid (((HA1.out.set 5 (.bool true) (g' := { g1 with odd := true }) rfl rfl rfl)).set 0 (.string (g1.body ++ pt)) (g' := { g1 with odd := true, body := g1.body ++ pt }) rfl rfl rfl)
                go_wp2_with fail
                go_roundw
                case rel =>
                  refine ⟨k + 1, { g1 with odd := true, body := g1.body ++ pt }, _, _, by have := HLT.out; omega, rfl, ?_, HN.out, ?_, ?_, ?_⟩
                  · rw [gathP_succ l k HLT.out, ← HG.out]
                    refine Eq.trans ?_ (congrArg (gStep g) HX.out).symm
                    rw [HG1.out]
                    unfold Gt.take
                    simp only
                    rw [if_neg hpk, if_pos hp3]
                    rw [hod, hem]
                    try rfl
                  · exact Nat.le_succ_of_le HSL1.out
                  · exact Nat.le_succ_of_le HAL1.out
                  · have := HBE1.out; show (g1.body ++ pt).size + _ ≤ _; rw [ByteArray.size_append]; omega
                case measure =>
                  have := HLT.out
                  simp [intOf]
                  omega
              · have hem2 : (pt.toList.isEmpty) = false := Bool.eq_false_iff.2 hem
                have HN := Lib.hid (((HA1.out.set 5 (.bool false) (g' := { g1 with odd := false }) rfl rfl rfl)).set 0 (.string (g1.body ++ pt)) (g' := { g1 with odd := false, body := g1.body ++ pt }) rfl rfl rfl)
                go_wp2_with fail
                go_roundw
                case rel =>
                  refine ⟨k + 1, { g1 with odd := false, body := g1.body ++ pt }, _, _, by have := HLT.out; omega, rfl, ?_, HN.out, ?_, ?_, ?_⟩
                  · rw [gathP_succ l k HLT.out, ← HG.out]
                    refine Eq.trans ?_ (congrArg (gStep g) HX.out).symm
                    rw [HG1.out]
                    unfold Gt.take
                    simp only
                    rw [if_neg hpk, if_pos hp3]
                    rw [hod, hem2]
                    try rfl
                  · exact Nat.le_succ_of_le HSL1.out
                  · exact Nat.le_succ_of_le HAL1.out
                  · have := HBE1.out; show (g1.body ++ pt).size + _ ≤ _; rw [ByteArray.size_append]; omega
                case measure =>
                  have := HLT.out
                  simp [intOf]
                  omega
          by_cases hp4 : pk = 4
          · have e2 : (pk == 2) = false := by simp [hp4]
            have e3 : (pk == 3) = false := by simp [hp4]
            have e4 : (pk == 4) = true := by simp [hp4]
            have e5 : (pk == 5) = false := by simp [hp4]
            have HN := Lib.hid (HA1.out.set 3 (.bool true) (g' := { g1 with over := true }) rfl rfl rfl)
            go_wp2_with fail
            go_roundw
            case rel =>
              refine ⟨k + 1, { g1 with over := true }, _, _, by have := HLT.out; omega, rfl, ?_, HN.out, ?_, ?_, ?_⟩
              · rw [gathP_succ l k HLT.out, ← HG.out]
                refine Eq.trans ?_ (congrArg (gStep g) HX.out).symm
                rw [HG1.out]
                unfold Gt.take
                simp only
                rw [if_neg hpk, if_neg hp3, if_pos hp4]
                try rfl
              · exact Nat.le_succ_of_le HSL1.out
              · exact Nat.le_succ_of_le HAL1.out
              · have := HBE1.out; show g1.body.size + _ ≤ _; omega
            case measure =>
              have := HLT.out
              simp [intOf]
              omega
          by_cases hp5 : pk = 5
          · have e2 : (pk == 2) = false := by simp [hp5]
            have e3 : (pk == 3) = false := by simp [hp5]
            have e4 : (pk == 4) = false := by simp [hp5]
            have e5 : (pk == 5) = true := by simp [hp5]
            have HN := Lib.hid (HA1.out.set 4 (.int .i64 pn) (g' := { g1 with err := pn }) rfl rfl rfl)
            go_wp2_with fail
            go_roundw
            case rel =>
              refine ⟨k + 1, { g1 with err := pn }, _, _, by have := HLT.out; omega, rfl, ?_, HN.out, ?_, ?_, ?_⟩
              · rw [gathP_succ l k HLT.out, ← HG.out]
                refine Eq.trans ?_ (congrArg (gStep g) HX.out).symm
                rw [HG1.out]
                unfold Gt.take
                simp only
                rw [if_neg hpk, if_neg hp3, if_neg hp4, if_pos hp5]
                try rfl
              · exact Nat.le_succ_of_le HSL1.out
              · exact Nat.le_succ_of_le HAL1.out
              · have := HBE1.out; show g1.body.size + _ ≤ _; omega
            case measure =>
              have := HLT.out
              simp [intOf]
              omega
          have e2 : (pk == 2) = false := by simp [hpk, hp3, hp4, hp5]
          have e3 : (pk == 3) = false := by simp [hpk, hp3, hp4, hp5]
          have e4 : (pk == 4) = false := by simp [hpk, hp3, hp4, hp5]
          have e5 : (pk == 5) = false := by simp [hpk, hp3, hp4, hp5]
          have HN := Lib.hid (HA1.out.set 5 (.bool true) (g' := { g1 with odd := true }) rfl rfl rfl)
          go_wp2_with fail
          go_roundw
          case rel =>
            refine ⟨k + 1, { g1 with odd := true }, _, _, by have := HLT.out; omega, rfl, ?_, HN.out, ?_, ?_, ?_⟩
            · rw [gathP_succ l k HLT.out, ← HG.out]
              refine Eq.trans ?_ (congrArg (gStep g) HX.out).symm
              rw [HG1.out]
              unfold Gt.take
              simp only
              rw [if_neg hpk, if_neg hp3, if_neg hp4, if_neg hp5]
              try rfl
            · exact Nat.le_succ_of_le HSL1.out
            · exact Nat.le_succ_of_le HAL1.out
            · have := HBE1.out; show g1.body.size + _ ≤ _; omega
          case measure =>
            have := HLT.out
            simp [intOf]
            omega

    · have hk1 : decide ((k : Int) < (l.length : Int)) = false := decide_eq_false (by omega)
      have hk2 : decide (k < l.length) = false := decide_eq_false hlt
      have hke : k = l.length := by omega
      have hgf : g = gathP l := by rw [HG.out, hke, List.take_length]
      obtain ⟨p1, c1, rfl⟩ := HA.out.s.shape
      obtain ⟨p2, c2, rfl⟩ := HA.out.a.shape
      have HGF := Lib.hid hgf
      clear hgf hke
      have y0 : wr.cell? ⟨T, 0, none⟩ = some (.string g.body) := HA.out.k.cell 0
      have y1 : wr.cell? ⟨T, 1, none⟩ = some (.slice p1 g.sizes.length c1) := HA.out.k.cell 1
      have y2 : wr.cell? ⟨T, 2, none⟩ = some (.slice p2 g.at_.length c2) := HA.out.k.cell 2
      have y3 : wr.cell? ⟨T, 3, none⟩ = some (.bool g.over) := HA.out.k.cell 3
      have y4 : wr.cell? ⟨T, 4, none⟩ = some (.int .i64 g.err) := HA.out.k.cell 4
      have y5 : wr.cell? ⟨T, 5, none⟩ = some (.bool g.odd) := HA.out.k.cell 5
      have z0 : wr.frozen? ⟨T, 0, none⟩ = false := HA.out.k.froz 0
      have z1 : wr.frozen? ⟨T, 1, none⟩ = false := HA.out.k.froz 1
      have z2 : wr.frozen? ⟨T, 2, none⟩ = false := HA.out.k.froz 2
      have z3 : wr.frozen? ⟨T, 3, none⟩ = false := HA.out.k.froz 3
      have z4 : wr.frozen? ⟨T, 4, none⟩ = false := HA.out.k.froz 4
      have z5 : wr.frozen? ⟨T, 5, none⟩ = false := HA.out.k.froz 5

      have r0 : wr.cell? ⟨w.heap.size, 0, none⟩ = some (.string ⟨#[]⟩) := HA.out.r.cell 0
      have r1 : wr.cell? ⟨w.heap.size, 1, none⟩ = some (.slice none 0 0) := HA.out.r.cell 1
      have r2 : wr.cell? ⟨w.heap.size, 2, none⟩ = some (.slice none 0 0) := HA.out.r.cell 2
      have r3 : wr.cell? ⟨w.heap.size, 3, none⟩ = some (.bool false) := HA.out.r.cell 3
      have r4 : wr.cell? ⟨w.heap.size, 4, none⟩ = some (.int .i64 0) := HA.out.r.cell 4
      have r5 : wr.cell? ⟨w.heap.size, 5, none⟩ = some (.bool false) := HA.out.r.cell 5
      have s0 := HA.out.r.froz 0
      have s1 := HA.out.r.froz 1
      have s2 := HA.out.r.froz 2
      have s3 := HA.out.r.froz 3
      have s4 := HA.out.r.froz 4
      have s5 := HA.out.r.froz 5
      go_wp2_with fail
      have T6 : Touch (fun j => j = w.heap.size) wr ((((((wr.setCell ⟨w.heap.size, 0, none⟩ (.string g.body)).setCell ⟨w.heap.size, 1, none⟩ (.slice p1 g.sizes.length c1)).setCell ⟨w.heap.size, 2, none⟩ (.slice p2 g.at_.length c2)).setCell ⟨w.heap.size, 3, none⟩ (.bool g.over)).setCell ⟨w.heap.size, 4, none⟩ (.int .i64 g.err)).setCell ⟨w.heap.size, 5, none⟩ (.bool g.odd)) :=
        ((((((Touch.refl (fun j => j = w.heap.size) wr).setCell (p := ⟨w.heap.size, 0, none⟩) rfl _).setCell (p := ⟨w.heap.size, 1, none⟩) rfl _).setCell (p := ⟨w.heap.size, 2, none⟩) rfl _).setCell (p := ⟨w.heap.size, 3, none⟩) rfl _).setCell (p := ⟨w.heap.size, 4, none⟩) rfl _).setCell (p := ⟨w.heap.size, 5, none⟩) rfl _
      refine bodyPost_ret (results_cell_row (Tryz.results10) _ _ w.heap.size 44 #[.string g.body, .slice p1 g.sizes.length c1, .slice p2 g.at_.length c2, .bool g.over, .int .i64 g.err, .bool g.odd] (0, 0) _ rfl ?_ Tryz.underlying44 rfl (by kernel_rfl)) rfl ⟨.slice p1 g.sizes.length c1, .slice p2 g.at_.length c2, ?_, ?_, ?_, ?_⟩
      · exact ((((((HA.out.r.set 0 _).set 1 _).set 2 _).set 3 _).set 4 _).set 5 _)
      · rw [← HGF.out]; rfl
      · rw [← HGF.out]
        exact own_touch HA.out.s T6 (fun j hj e => HA.out.nR.1 (by rw [← show j = w.heap.size from e]; exact hj))
      · rw [← HGF.out]
        exact own_touch HA.out.a T6 (fun j hj e => HA.out.nR.2 (by rw [← show j = w.heap.size from e]; exact hj))
      · exact HA.out.b.trans (T6.below (fun j _ hj => Nat.le_of_eq (Eq.symm hj)) HA.out.b.size)
end Go.Proofs.YtbglakhojbhfbaaGreatDoor

-- BodyNoneL
namespace Go.Proofs.YtbglakhojbhfbaaGreatDoor
open Go.RowKit
theorem pc_len {w : World} {B : Nat} {v : Value} (h : OwnPc w B v []) : ∃ p c, v = .slice p 0 c := by
  obtain ⟨_, h⟩ := h
  rcases h with ⟨rfl, _⟩ | ⟨g, cap, cur, rfl, _⟩
  · exact ⟨_, _, rfl⟩
  · exact ⟨_, _, rfl⟩
theorem pc_shape {w : World} {B : Nat} {v : Value} {l : List Pc} (h : OwnPc w B v l) : ∃ p c, v = .slice p l.length c := by
  obtain ⟨_, h⟩ := h
  rcases h with ⟨rfl, h0⟩ | ⟨g, cap, cur, rfl, _⟩
  · exact ⟨_, _, by rw [h0]⟩
  · exact ⟨_, _, rfl⟩
end Go.Proofs.YtbglakhojbhfbaaGreatDoor
