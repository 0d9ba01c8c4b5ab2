/- Texts packed for one claim, 18 of 48: OwnB. -/
import Derived.Test.YthjbodpeckebiaaGreatDoorRdnQ9
import Derived.Test.YthjbodpeckebiaaGreatDoorRdnQ11
set_option linter.unusedSimpArgs false
set_option linter.unusedVariables false
-- OwnB
namespace Go.Proofs.YthjbodpeckebiaaGreatDoor
open Go.RowKit
def cm (w:World) (B:Nat) (v:Value) (l:List UInt8):Prop:=w.ownsRow B 5 1 v l.length (l.map fun b=>Value.int .u8 b.toNat)
theorem cm.start (w:World) (B:Nat):cm w B (.slice none 0 0) []:=uz _ _ _ _
theorem ab {P:Nat->Prop} {w w1:World} {B:Nat} {e:TypeId} {size:Nat} {v:Value} {n:Nat} {xs:List Value} (h:w.ownsRow B e size v n xs) (ht:aa P w w1) (hP:∀g,v.ownBlock=some g->¬P g):w1.ownsRow B e size v n xs:=by
 obtain⟨h1,h2⟩:=h;refine⟨h1,?_⟩;rcases h2 with h2|⟨g,cap,cur,rfl,hB,hg,rest⟩
 ·exact Or.inl h2
 ·exact Or.inr ⟨g,cap,cur,rfl,hB,(ht.block g ((ua.1 hg).1) (hP g rfl)).trans hg,rest⟩
theorem jI:(Tryz.prog.info? 5).map (fun i=>(i.zero,i.size,i.bytes))=some (some (.int .u8 0),1,1):=by kernel_rfl
theorem cj {ops:Array Oper} {rest:List Oper} {o:Oper} {a:Act} {Q:Exit->Act->World->Prop} (hgd:o.guard=none) (s x:Operand)
 (ho:o.op=.call { callee:=.builtin .append,args:=#[s,x],argTypes:=#[134,134] }) {w:World} {B:Nat} {v:Value} {l:List UInt8} (hs:a.eval s=v) (hown:cm w B v l) (y:UInt8) (yi:Int) (hyi:yi=y.toNat)
 (hx:a.eval x=.slice (some ⟨w.heap.size,0,none⟩) 1 1) (hl:l.length<=1000000) (hB:B<=w.heap.size)
 (h:∀g c w1,cm w1 B (.slice (some ⟨g,0,none⟩) (l.length+1) c) (l++[y])->aa (fun j=>v.ownBlock=some j) w w1->(v.ownBlock=some g\/w.heap.size<=g)->wpList Tryz.prog ops Q rest (a.put o.dst (.slice (some ⟨g,0,none⟩) (l.length+1) c)) w1):
 wpList Tryz.prog ops Q (o :: rest) a (w.alloc (.cells #[.int .u8 yi] 5)):=by
 subst hyi;obtain⟨i0,hi,hz0,hz1,hz2⟩:=info_parts jI;have hown':World.ownsRow (w.alloc (.cells #[.int .u8 y.toNat] 5)) B 5 1 v l.length (l.map fun b=>Value.int .u8 b.toNat):=World.ownsRow.alloc hown _;refine wpList_append_lies _ hgd s x 134 ho B 5 i0 _ 1 1 Tryz.underlying134 hi hz0 hz1 hz2 rfl (by decide) v l.length _ hs hown' ⟨w.heap.size,0,none⟩ 1 1 [.int .u8 y.toNat] hx rfl ?c1 ?c2 (by decide) ?c3 ?c4 ?c5 _ rfl ?_;case c1=>exact World.news_of_block (cs:=#[.int .u8 y.toNat]) (t:=5) (fr:=(0,0)) (heap_alloc_new w _)
 case c2=>simp[Value.oneCell']
 case c3=>unfold maxLen;omega
 case c4=>omega
 case c5=>simp;omega
 intro g c w1 hown1 hg hat _;refine h g c w1 ?_ ?_ ?_
 ·show w1.ownsRow B 5 1 _ (l++[y]).length _
  rw[ue,uw];exact hown1
 ·refine((aa.refl _ w).alloc (.cells #[.int .u8 y.toNat] 5)).trans ⟨hg.os,hg.tape,hg.output,hg.size,fun k hk hne=>hg.block k hk (fun e=>hne e.symm)⟩
 ·rcases hat with h1|h1
  ·exact Or.inl h1
  ·right;rw[h1];simp
theorem dr {ops:Array Oper} {rest:List Oper} {o:Oper} {a:Act} {Q:Exit->Act->World->Prop} (hgd:o.guard=none) (s x:Operand)
 (ho:o.op=.call { callee:=.builtin .append,args:=#[s,x],argTypes:=#[22,22] }) {w:World} {B:Nat} {v:Value} {l:List ByteArray} (hs:a.eval s=v) (hown:ao w B v l) (y:ByteArray)
 (hx:a.eval x=.slice (some ⟨w.heap.size,0,none⟩) 1 1) (hl:l.length<=1000000) (hB:B<=w.heap.size)
 (h:∀g c w1,ao w1 B (.slice (some ⟨g,0,none⟩) (l.length+1) c) (l++[y])->aa (fun j=>v.ownBlock=some j) w w1->(v.ownBlock=some g\/w.heap.size<=g)->wpList Tryz.prog ops Q rest (a.put o.dst (.slice (some ⟨g,0,none⟩) (l.length+1) c)) w1):
 wpList Tryz.prog ops Q (o :: rest) a (w.alloc (.cells #[.string y] 9)):=by
 obtain⟨i0,hi,hz0,hz1,hz2⟩:=info_parts ix;have hown':World.ownsRow (w.alloc (.cells #[.string y] 9)) B 9 1 v l.length (l.map Value.string):=World.ownsRow.alloc hown _;refine wpList_append_lies _ hgd s x 22 ho B 9 i0 _ 1 16 Tryz.underlying22 hi hz0 hz1 hz2 rfl (by decide) v l.length _ hs hown' ⟨w.heap.size,0,none⟩ 1 1 [.string y] hx rfl ?c1 ?c2 (by decide) ?c3 ?c4 ?c5 _ rfl ?_;case c1=>exact World.news_of_block (cs:=#[.string y]) (t:=9) (fr:=(0,0)) (heap_alloc_new w _)
 case c2=>simp[Value.oneCell']
 case c3=>unfold maxLen;omega
 case c4=>omega
 case c5=>simp;omega
 intro g c w1 hown1 hg hat _;refine h g c w1 ?_ ?_ ?_
 ·show w1.ownsRow B 9 1 _ (l++[y]).length _
  rw[ue,uw];exact hown1
 ·refine((aa.refl _ w).alloc (.cells #[.string y] 9)).trans ⟨hg.os,hg.tape,hg.output,hg.size,fun k hk hne=>hg.block k hk (fun e=>hne e.symm)⟩
 ·rcases hat with h1|h1
  ·exact Or.inl h1
  ·right;rw[h1];simp
end Go.Proofs.YthjbodpeckebiaaGreatDoor