/- The iterator that encode.cuts hands back: the pieces, in order, for every loop body that keeps what lay below n0. -/
import Derived.Test.YtekbmefdaepgcaaCuts
namespace Go.Proofs.Ytekbmefdaepgcaa
open Go.RowKit Go.Shelf
attribute [local go_sem] Oper.semAt_some
/-- A text that is not too long: what a loop's body is handed. -/
abbrev Pc := { x : ByteArray // x.size ≤ 1000000 }
def cutQ (s : ByteArray) (hs : s.size ≤ 1000000) (l : List Int) (k : Nat) : List Pc := (List.range k).map fun j => ⟨s.extract (offK l j) (offK l (j + 1)), by simp; omega⟩
theorem cutQ_succ (s : ByteArray) (hs : s.size ≤ 1000000) (l : List Int) (k : Nat) : cutQ s hs l (k + 1) = cutQ s hs l k ++ [⟨s.extract (offK l k) (offK l (k + 1)), by simp; omega⟩] := by unfold cutQ; rw [List.range_succ, List.map_append]; rfl
theorem cutQ_length (s : ByteArray) (hs : s.size ≤ 1000000) (l : List Int) (k : Nat) : (cutQ s hs l k).length = k := by unfold cutQ; simp
theorem cutQ_val (s : ByteArray) (hs : s.size ≤ 1000000) (l : List Int) (k : Nat) : (cutQ s hs l k).map (·.1) = cutP s l k := by unfold cutQ cutP; rw [List.map_map]; rfl
set_option maxRecDepth 100000 in
set_option maxHeartbeats 4000000 in
theorem cuts1_in (F : Fence) (n : Nat) (h91 : F.fn 91) (hro : F.round = none) (hn : 1 ≤ n) (y n₀ g : Nat) (s : ByteArray) (hs : s.size ≤ 1000000) (A : Option Addr) (len cap : Nat) (l : List Int) (hl : len ≤ 4611686018427387903)
    (hpos : ∀ n ∈ l, 1 ≤ n) (hoff : offK l len ≤ s.size) (J Jx : List Pc → World → Prop)
    (hY : ∀ pre x W, J pre W → pre.length < len → YieldAt F (n - 1) Try.prog y #[.string x.1] W fun e W' =>
      (e = .returned (.bool true) ∧ J (pre ++ [x]) W' ∧ Below n₀ W W') ∨ (e = .returned (.bool false) ∧ Jx (pre ++ [x]) W'))
    (W : World) (hn₀ : n₀ ≤ W.heap.size) (hA : Ints W A len l) (hb : 0 < len → ∀ b off, A = some ⟨b, off, none⟩ → b < n₀) (h1 : W.cell? ⟨g, 0, none⟩ = some (.string s)) (h2 : W.cell? ⟨g + 1, 0, none⟩ = some (.slice A len cap)) (h0 : J [] W) :
    CallsIn F n Try.prog 91 #[.func (.yield y) #[] #[], .pointer (some ⟨g, 0, none⟩), .pointer (some ⟨g + 1, 0, none⟩)] W fun e W' => (∃ v, e = .returned v) ∧
      ((∃ ys, ys = cutQ s hs l len ∧ J ys W') ∨ (∃ pre, (∃ k, k ≤ len ∧ pre = cutQ s hs l k) ∧ Jx pre W')) := by
  have hlen := hA.1
  have H := Lib.hid hA
  have HB := Lib.hid hb
  have HP := Lib.hid hpos
  have HN := Lib.hid hn₀
  have HY := Lib.hid hY
  have H0 := Lib.hid h0
  have hsi : (s.size : Int) ≤ 1000000 := by omega
  clear hA hb hpos hn₀ hY h0
  refine callsIn_of_wp Try.func91 rfl h91 ?_ hro
  simp only [Try.ntmps91, List.size_toArray, List.length_cons, List.length_nil, Nat.reduceAdd, Nat.reduceSub, Array.replicate_succ, Array.replicate_zero, List.push_toArray, List.append_toArray, List.nil_append, List.cons_append]
  gi_wp2
  gi_loopw [10, 4] (fun i v wr => ∃ k : Nat, k ≤ len ∧ i = .int .i64 k ∧ v = .string (s.extract (offK l k) s.size) ∧ J (cutQ s hs l k) wr ∧ Below n₀ W wr)
    (fun i _ _ => len - (intOf i).toNat)
  case atStart => exact ⟨0, Nat.zero_le _, rfl, by rw [offK_zero]; congr 1; exact bytes_whole s, H0.out, Below.refl _ _⟩
  case round =>
    obtain ⟨k, hk, rfl, rfl, hJs, hnx⟩ := hrel
    have HJ := Lib.hid hJs
    have HX := Lib.hid hnx
    clear hJs hnx
    by_cases hlt : k < len
    · obtain ⟨b, off, rfl, hbw, hc⟩ := H.out.2 (by omega)
      obtain ⟨m, hg⟩ : ∃ m, l[k]? = some m := ⟨l[k]'(by omega), List.getElem?_eq_getElem (by omega)⟩
      obtain ⟨c0, hm1, hm2⟩ := hc k m hg
      have c1 : wr.cell? ⟨b, off + k, none⟩ = some (.int .i64 m) := (HX.out.cell (p := ⟨b, off + k, none⟩) (HB.out (by omega) b off rfl)).trans c0
      have hmp := HP.out m (List.mem_of_getElem? hg)
      have ho := offK_succ l hg
      have ho2 := offK_mono l (j := k + 1) (k := len) (by omega)
      obtain ⟨R, hR⟩ : ∃ R, R = s.extract (offK l k) s.size := ⟨_, rfl⟩
      have hRs : R.size = s.size - offK l k := by rw [hR]; simp
      have s1 : ∀ W : World, (Instr.slice 9 (.string R) none (some (.int .i64 m)) none).run Try.prog W = .ok (.string (s.extract (offK l k) (offK l (k + 1)))) W := fun W => by
        rw [run_slice_string_h W 9 R Try.underlying9 .i64 m (by omega) (by omega), hR, ByteArray.extract_extract]
        congr 3
        omega
      have s2 : ∀ W : World, (Instr.slice 9 (.string R) (some (.int .i64 m)) none none).run Try.prog W = .ok (.string (s.extract (offK l (k + 1)) s.size)) W := fun W => by
        rw [run_slice_string_l W 9 R Try.underlying9 .i64 m (by omega) (by omega), hRs, hR, ByteArray.extract_extract]
        congr 3 <;> omega
      rw [← hR]
      obtain ⟨Y, hX1, hX2⟩ : ∃ Y : Pc, cutQ s hs l k ++ [Y] = cutQ s hs l (k + 1) ∧ s.extract (offK l k) (offK l (k + 1)) = Y.1 := ⟨⟨_, by simp; omega⟩, (cutQ_succ s hs l k).symm, rfl⟩
      rw [hX2] at s1
      obtain ⟨fn, tmps, assign, body, hy, hRr⟩ := HY.out _ Y wr HJ.out (by rw [cutQ_length]; exact hlt)
      have HX2 := Lib.hid hX1
      have HRr := Lib.hid hRr
      have hki : (k : Int) < len := by omega
      have hli : (len : Int) ≤ 4611686018427387903 := by omega
      clear hc c0 hg hbw ho ho2 hR hRs hX1 hX2 hRr
      gi_wp2
      refine HRr.out.mono ?_
      rintro e W3 (⟨rfl, hJ3, hk3⟩ | ⟨rfl, hJx3⟩)
      · have HJ3 := Lib.hid hJ3
        have HK3 := Lib.hid hk3
        clear hJ3 hk3
        gi_wp2
        go_roundw
        case rel => exact ⟨k + 1, by omega, by go_num, rfl, by rw [← HX2.out]; exact HJ3.out, HX.out.trans HK3.out⟩
        case measure => simp [intOf]; omega
      · have HJ3 := Lib.hid hJx3
        clear hJx3
        gi_wp2
        refine bodyPost_ret (results_none rfl _ _ _) rfl ?_
        exact ⟨⟨_, rfl⟩, .inr ⟨_, ⟨k + 1, by omega, HX2.out⟩, HJ3.out⟩⟩
    · obtain rfl : k = len := by omega
      gi_wp2
      go_end0
      exact ⟨⟨_, rfl⟩, .inl ⟨_, rfl, HJ.out⟩⟩
/-- What encode.cuts hands back tells the pieces, in order. -/
theorem cuts_stops (F : Fence) (n : Nat) (h91 : F.fn 91) (hro : F.round = none) (hn : 1 ≤ n) (n₀ g : Nat) (s : ByteArray) (hs : s.size ≤ 1000000) (A : Option Addr) (len cap : Nat) (l : List Int) (hl : len ≤ 4611686018427387903)
    (hpos : ∀ n ∈ l, 1 ≤ n) (hoff : offK l len ≤ s.size) (w : World) (hg : g + 1 < w.heap.size) (hn₀ : n₀ ≤ w.heap.size) (hA : Ints w A len l) (hb : 0 < len → ∀ b off, A = some ⟨b, off, none⟩ → b < n₀) (h1 : w.cell? ⟨g, 0, none⟩ = some (.string s)) (h2 : w.cell? ⟨g + 1, 0, none⟩ = some (.slice A len cap)) :
    SeqStopsK F n Try.prog 91 #[.pointer (some ⟨g, 0, none⟩), .pointer (some ⟨g + 1, 0, none⟩)] (fun x : Pc => #[Value.string x.1]) (Below n₀) (fun ys => ys = cutQ s hs l len) (fun pre => ∃ k, k ≤ len ∧ pre = cutQ s hs l k) len w := fun y J Jx W hW _ _ hY h0 => by
  exact cuts1_in F n h91 hro hn y n₀ g s hs A len cap l hl hpos hoff J Jx hY W (Nat.le_trans hn₀ hW.size) (hA.below hW) hb ((hW.cell (p := ⟨g, 0, none⟩) (by show g < _; omega)).trans h1) ((hW.cell (p := ⟨g + 1, 0, none⟩) hg).trans h2) h0
end Go.Proofs.Ytekbmefdaepgcaa
