/- A region that draws its order: its first operations one by one, the rest by one quiet walk. -/
import Derived.Test.YtmkjkodblincbaaLinkLives
import Derived.Deep.RegionWith
import Derived.BigQuiet
namespace Go
section
variable {P : Program} {Q : Exit → Act → World → Prop} {a : Act} {w : World}
theorem wpAny_tail {ops : Array Oper} {l : List Oper} {k fuel : Nat} {listed : Array Bool} (hf : fuel = l.length) (hk : ∀ j, l[j]? = ops[k + j]?) (hs : Region.noSelect ops = true)
    (hB : Region.lexFrom .any ops l.length k listed = true)
    (h : wpQuiet P ops (fun w' => ∃ n, w' = w.drewN n) (fun a' => ∀ w', (∃ n, w' = w.drewN n) → Q .normal a' w') l a) : wpAny P .any ops Q fuel listed a w := by
  subst hf
  refine wpAny_of_quiet (C := fun w' => ∃ n, w' = w.drewN n) (Q := fun a' => ∀ w', (∃ n, w' = w.drewN n) → Q .normal a' w') (fun _ w' hw' h => h w' hw') _ _ _ _ ⟨0, rfl⟩ ?_
  exact wpAnyQ_lex hs l k listed a hk hB h
theorem wpAny_tail3 {o0 o1 o2 : Oper} {l : List Oper} {fuel : Nat} {listed : Array Bool} (hf : fuel = l.length) (hs : Region.noSelect (o0 :: o1 :: o2 :: l).toArray = true)
    (hB : Region.lexFrom .any (o0 :: o1 :: o2 :: l).toArray l.length 3 listed = true)
    (h : wpQuiet P (o0 :: o1 :: o2 :: l).toArray (fun w' => ∃ n, w' = w.drewN n) (fun a' => ∀ w', (∃ n, w' = w.drewN n) → Q .normal a' w') l a) : wpAny P .any (o0 :: o1 :: o2 :: l).toArray Q fuel listed a w :=
  wpAny_tail (k := 3) hf (fun j => by rw [List.getElem?_toArray, Nat.add_comm]; rfl) hs hB h
end
end Go
