/- Texts packed for one claim, 28 of 48: BdG BdH. -/
import Derived.Test.YthjbodpeckebiaaGreatDoorRdnQ20
import Derived.Test.YthjbodpeckebiaaGreatDoorRdnQ27
import Derived.Test.YthjbodpeckebiaaGreatDoorRdnQ25
import Derived.Test.YthjbodpeckebiaaGreatDoorRdnQ4
set_option maxRecDepth 100000
set_option maxHeartbeats 16000000
set_option linter.unusedSimpArgs false
set_option linter.unusedVariables false
-- BdG
namespace Go.Proofs.YthjbodpeckebiaaGreatDoor
open Go.RowKit
theorem nJ (r:Int) (h0:0<=r) (h1:r<=1114111) (w:World):Calls Tryz.prog 150 #[.int .i32 r] w fun e w'=>e=.returned (.bool (decide (0<=av r)))/\w=w':=by
 rcases (by omega:r<48\/(48<=r/\r<=57)\/(57<r/\r<65)\/(65<=r/\r<=70)\/(70<r/\r<97)\/(97<=r/\r<=102)\/102<r) with h|⟨h,h'⟩|⟨h,h'⟩|⟨h,h'⟩|⟨h,h'⟩|⟨h,h'⟩|h
 ·have HV:Hid (decide (0<=av r)=false):=by show decide (0<=av r)=false;rw[tZ];unfold av;repeat' split;all_goals omega
  have d0:decide (r<=57)=true:=dT (by omega);have d1:decide (r<=70)=true:=dT (by omega);have d2:decide (r<=102)=true:=dT (by omega);go_enter Tryz.func150,Tryz.ntmps150
  go_wp2_with fail
  go_ret;rw[HV.out];exact⟨rfl,rfl⟩
 ·have HV:Hid (decide (0<=av r)=true):=by show decide (0<=av r)=true;rw[decide_eq_true_iff];unfold av;repeat' split;all_goals omega
  have d0:decide (r<=57)=true:=dT (by omega);have d1:decide (r<=70)=true:=dT (by omega);have d2:decide (r<=102)=true:=dT (by omega);go_enter Tryz.func150,Tryz.ntmps150
  go_wp2_with fail
  go_ret;rw[HV.out];exact⟨rfl,rfl⟩
 ·have HV:Hid (decide (0<=av r)=false):=by show decide (0<=av r)=false;rw[tZ];unfold av;repeat' split;all_goals omega
  have d0:decide (r<=57)=false:=dF (by omega);have d1:decide (r<=70)=true:=dT (by omega);have d2:decide (r<=102)=true:=dT (by omega);go_enter Tryz.func150,Tryz.ntmps150
  go_wp2_with fail
  go_ret;rw[HV.out];exact⟨rfl,rfl⟩
 ·have HV:Hid (decide (0<=av r)=true):=by show decide (0<=av r)=true;rw[decide_eq_true_iff];unfold av;repeat' split;all_goals omega
  have d0:decide (r<=57)=false:=dF (by omega);have d1:decide (r<=70)=true:=dT (by omega);have d2:decide (r<=102)=true:=dT (by omega);go_enter Tryz.func150,Tryz.ntmps150
  go_wp2_with fail
  go_ret;rw[HV.out];exact⟨rfl,rfl⟩
 ·have HV:Hid (decide (0<=av r)=false):=by show decide (0<=av r)=false;rw[tZ];unfold av;repeat' split;all_goals omega
  have d0:decide (r<=57)=false:=dF (by omega);have d1:decide (r<=70)=false:=dF (by omega);have d2:decide (r<=102)=true:=dT (by omega);go_enter Tryz.func150,Tryz.ntmps150
  go_wp2_with fail
  go_ret;rw[HV.out];exact⟨rfl,rfl⟩
 ·have HV:Hid (decide (0<=av r)=true):=by show decide (0<=av r)=true;rw[decide_eq_true_iff];unfold av;repeat' split;all_goals omega
  have d0:decide (r<=57)=false:=dF (by omega);have d1:decide (r<=70)=false:=dF (by omega);have d2:decide (r<=102)=true:=dT (by omega);go_enter Tryz.func150,Tryz.ntmps150
  go_wp2_with fail
  go_ret;rw[HV.out];exact⟨rfl,rfl⟩
 ·have HV:Hid (decide (0<=av r)=false):=by show decide (0<=av r)=false;rw[tZ];unfold av;repeat' split;all_goals omega
  have d0:decide (r<=57)=false:=dF (by omega);have d1:decide (r<=70)=false:=dF (by omega);have d2:decide (r<=102)=false:=dF (by omega);go_enter Tryz.func150,Tryz.ntmps150
  go_wp2_with fail
  go_ret;rw[HV.out];exact⟨rfl,rfl⟩
theorem qT (b:UInt8):cM b=decide (0<=av b.toNat):=by
 have:=eO b.toNat;unfold cM cK;by_cases h:0<=av b.toNat
 ·rw[dT h,dT ⟨h,by omega⟩]
 ·rw[dF h,dF (fun k=>h k.1)]
def qi (s:ByteArray):Nat:=(s.data.toList.takeWhile cM).length
theorem eL {α:Type} (p:α->Bool):∀(l:List α) (k:Nat),(∀j (h:j<l.length),j<k->p l[j]=true)->(k=l.length\/∃h:k<l.length,p l[k]=false)->(l.takeWhile p).length=k
 | [],k,_,h2=>by
   rcases h2 with h2|⟨h,_⟩
   ·simpa using h2.symm
   ·cases h
 | a :: l,0,_,h2=>by
   rcases h2 with h2|⟨h,h3⟩
   ·cases h2
   ·have:p a=false:=h3
    rw[u0,this];rfl
 | a :: l,k+1,h1,h2=>by
   have ha:p a=true:=h1 0 (Nat.zero_lt_succ _) (Nat.zero_lt_succ _);rw[u0,if_pos ha,t4];congr 1
   refine eL p l k (fun j h hj=>h1 (j+1) (Nat.succ_lt_succ h) (Nat.succ_lt_succ hj)) ?_;rcases h2 with h2|⟨h,h3⟩
   ·left;simpa using h2
   ·right;exact⟨Nat.lt_of_succ_lt_succ h,h3⟩
theorem qS (s:ByteArray) (k:Nat) (h1:∀j (h:j<s.size),j<k->cM s[j]=true) (h2:k=s.size\/∃h:k<s.size,cM s[k]=false):qi s=k:=by
 have e:s.data.toList.length=s.size:=(Lib.size_eq s).symm;refine eL cM _ k (fun j h hj=>h1 j (e▸h) hj) ?_;rcases h2 with h2|⟨h,h3⟩
 ·left;rw[e];exact h2
 ·right;exact⟨e▸h,h3⟩
theorem tj (s:ByteArray):s.extract 0 s.size=s:=by
 apply ByteArray.ext;rw[ByteArray.data_extract];exact Array.extract_size
theorem rY (s:ByteArray):s.extract s.size s.size=⟨#[]⟩:=by
 apply ByteArray.ext;rw[ByteArray.data_extract];exact Array.extract_empty_of_stop_le_start (nR _)
theorem mq (s:ByteArray) (hs:s.size<=1000000) (w:World):Calls Tryz.prog 115 #[.string s] w fun e w'=>e=.returned (.tuple #[.string (s.extract 0 (qi s)),.string (s.extract (qi s) s.size)])/\Below w.heap.size w w':=by
 go_enter Tryz.func115,Tryz.ntmps115
 go_wp2_with fail
 go_loopw [] (fun wr=>∃k:Nat,k<=s.size/\wr.heap[w.heap.size]? = some (.stringIter s k)/\Below w.heap.size w wr/\∀j (h:j<s.size),j<k->cM s[j]=true) (fun wr=>s.size - wr.iterPos w.heap.size)
 case atStart=>exact⟨0,by omega,World.iter_heap w s 0,(tU _ _).alloc (nR _) _,fun j _ h=>absurd h (uL _)⟩
 case round=>
  obtain⟨k,hp,hit,hbw,hall⟩:=hrel;have HALL:=lH hall;have HIT:=lH hit;have HBW:=lH hbw;have hsz:w.heap.size<wr.heap.size:=(ua.1 hit).1;clear hall hit hbw;by_cases hlt:k<s.size
  ·obtain⟨r,wd,hr,hwd,hr0,hr1,hwd1,hq⟩:=kE s k hlt
   have hnx:∀ty,(Instr.next (.pointer (some ⟨w.heap.size,0,none⟩)) true ty).run Tryz.prog wr=.ok (.tuple #[.bool true,.int .i64 k,.int .i32 r]) (wr.iterAt w.heap.size s (k+wd)):=fun ty=>by
    rw[vq wr w.heap.size s k ty HIT.out hlt,hr,hwd]
   have hit2:=Lib.iterAt_heap wr w.heap.size s k (k+wd) HIT.out;have hbw2:=vr HBW.out (k:=w.heap.size) (nR _) s (k+wd);have HIT2:=lH hit2;have HBW2:=lH hbw2
   have hV:cM (s[k]'hlt)=decide (0<=av r):=by
    rw[qT];rcases hq with ⟨h,_,_⟩|⟨ha,hb⟩
    ·rw[h]
    ·rw[cE (by omega),cE ha]
   have hwd2:cM (s[k]'hlt)=true->wd=1:=fun h=>by
    rcases hq with ⟨_,h2,_⟩|⟨ha,_⟩
    ·exact h2
    ·rw[hV,cE ha] at h;simp at h
   have HV:=lH hV;have HW:=lH hwd2;have hsl1:∀W:World,(Instr.slice 9 (.string s) none (some (.int .i64 (k:Int))) none).run Tryz.prog W=.ok (.string (s.extract 0 k)) W:=fun W=>by rw[run_slice_string_h W 9 s Tryz.underlying9 .i64 (k:Int) (by omega) (by omega),uc]
   have hsl2:∀W:World,(Instr.slice 9 (.string s) (some (.int .i64 (k:Int))) none none).run Tryz.prog W=.ok (.string (s.extract k s.size)) W:=fun W=>by rw[uK W 9 s Tryz.underlying9 .i64 (k:Int) (by omega) (by omega),uc]
   clear hr hwd hq hit2 hbw2 hV hwd2;cases hv:decide (0<=av r)
   ·have HX:=lH hv
    clear hv;go_wp2_with (go_at_call 150;refine(nJ _ (by omega) (by omega) _).mono ?_;rintro e1 w1 ⟨rfl,h1⟩;subst h1;rw[HX.out])
    go_quiet (fail)
    go_wp2_with fail
    go_ret2
    have hN:qi s=k:=qS s k HALL.out (Or.inr ⟨hlt,by rw[HV.out,HX.out]⟩);rw[hN];exact⟨rfl,HBW2.out.trans ((bJ _ _).mono HBW2.out.size)⟩
   ·have HX:=lH hv
    clear hv;go_wp2_with (go_at_call 150;refine(nJ _ (by omega) (by omega) _).mono ?_;rintro e1 w1 ⟨rfl,h1⟩;subst h1;rw[HX.out])
    go_roundw
    case rel=>
     have hw1:=HW.out (by rw[HV.out,HX.out]);refine⟨k+wd,by omega,HIT2.out,HBW2.out,fun j h hj=>?_⟩;by_cases hjk:j<k
     ·exact HALL.out j h hjk
     ·obtain rfl:j=k:=by omega
      rw[HV.out,HX.out]
    case measure=>
     simp only[World.iterPos,HIT2.out,HIT.out];omega
  ·have hnx:∀ty,(Instr.next (.pointer (some ⟨w.heap.size,0,none⟩)) true ty).run Tryz.prog wr=_:=fun ty=>vh wr w.heap.size s k ty HIT.out hlt
   have hk:k=s.size:=by omega
   go_wp2_with fail
   go_ret2
   have hN:qi s=s.size:=qS s s.size (fun j h hj=>HALL.out j h (by omega)) (Or.inl rfl);rw[hN,tj,rY];exact⟨rfl,HBW.out⟩
def oH (l:List UInt8):Bool:=match l with
 | []=>true
 | c :: r=>decide ((aF ⟨(120 :: c :: r).toArray⟩).2.2=0/\(c=59\/c=32\/c=9))
theorem jx (l:List UInt8):aQ l=if l=[] then (0,2) else if l.takeWhile cM=[]\/oH (l.dropWhile cM)=false then (0,3) else al (l.takeWhile cM) 16 2147483647:=by
 unfold aQ oH;by_cases h:l=[]
 ·rw[if_pos h,if_pos h]
 ·rw[if_neg h,if_neg h]
  by_cases h1:l.takeWhile cM=[]
  ·rw[if_pos h1,if_pos (Or.inl h1)]
  ·rw[if_neg h1]
   cases hd:l.dropWhile cM with
   | nil=>rw[if_neg (by simp[h1])]
   | cons c r=>
     simp only;by_cases h2:(aF ⟨(120 :: c :: r).toArray⟩).2.2=0/\(c=59\/c=32\/c=9)
     ·rw[if_pos h2,if_neg (by simp[h1,h2.1,h2.2])]
     ·rw[if_neg h2,if_pos (Or.inr (dF h2))]
end Go.Proofs.YthjbodpeckebiaaGreatDoor
-- BdH
namespace Go.Proofs.YthjbodpeckebiaaGreatDoor
open Go.RowKit
theorem ry:∀n:Fin 256,decide (0<=Lib.indexByte [59,32,9] (UInt8.ofNat n.val))=decide (UInt8.ofNat n.val=59\/UInt8.ofNat n.val=32\/UInt8.ofNat n.val=9):=by decide +kernel
theorem sG (c:UInt8):decide (0<=Lib.indexByte [59,32,9] c)=decide (c=59\/c=32\/c=9):=by
 have h:=ry ⟨c.toNat,c.toNat_lt⟩;simp only[UInt8.ofNat_toNat] at h;exact h
theorem qH (s:ByteArray) (hs:s.size<=999999) (w:World):Calls Tryz.prog 116 #[.string s] w fun e w'=>e=.returned (.bool (oH s.data.toList))/\Below w.heap.size w w':=by
 cases hl:s.data.toList with
 | nil=>
   have he:s.toList.isEmpty=true:=by rw[af,hl];rfl
   go_enter Tryz.func116,Tryz.ntmps116
   go_wp2_with fail
   go_ret;exact⟨rfl,tU _ _⟩
 | cons c r=>
   have he:s.toList.isEmpty=false:=by rw[af,hl];rfl
   have h0:0<s.size:=by rw[Lib.size_eq,hl];simp
   have hT:(⟨#[120]⟩:ByteArray)++s=⟨(120 :: c :: r).toArray⟩:=by
    apply ByteArray.ext;rw[ByteArray.data_append];apply Array.toList_inj.1;rw[Array.toList_append,hl];rfl
   have hadd:=fun(W:World)=>run_string_add_sum (P:=Tryz.prog) (w:=W) ⟨#[120]⟩ s (by show 1+s.size<=_;omega);rw[hT] at hadd
   have hbt:bt s 0=c.toNat:=by
    obtain⟨d,hd,hd2⟩:=cz s 0 h0;rw[us,hl] at hd2;rw[hd];injection hd2 with e _
    rw[e]
   have hix:∀W:World,(Instr.index 9 (.string s) (.int .i64 0)).run Tryz.prog W=.ok (.int .u8 (bt s 0)) W:=ar s 0 h0;rw[hbt] at hix;have HP:=lH (fun W=>iJ ⟨(120 :: c :: r).toArray⟩ (by rw[<-hT,uV];show 1+s.size<=_;omega) W);have HF:=lH (fun(W:World)=>Tryz.strings_IndexByte ⟨#[59,32,9]⟩ (c.toNat:Int) W);obtain⟨E,hE⟩:∃E,E=(aF ⟨(120 :: c :: r).toArray⟩).2.2:=⟨_,rfl⟩;have hx:oH (c :: r)=decide (E=0/\(c=59\/c=32\/c=9)):=by rw[hE];rfl
   obtain⟨X,hX⟩:∃X,X=oH (c :: r):=⟨_,rfl⟩;rw[<-hX] at hx ⊢;rw[<-hE] at HP;have HL:=lH hl;clear hl hE hX;by_cases hz:E=0
   ·subst hz
    have hd:X=decide (0<=Lib.indexByte [59,32,9] c):=by rw[hx,sG];simp
    rw[hd];clear hx hd;go_enter Tryz.func116,Tryz.ntmps116
    go_wp2_with (first|(go_at_call 151;refine(HP.out _).mono ?_;rintro e1 w1 ⟨p1,c1,rfl,hb1⟩;have HB1:=lH hb1;clear hb1)|(go_at_call 152;refine(HF.out _).mono ?_;rintro e2 w2 ⟨rfl,rfl⟩))
    go_ret;exact⟨rfl,HB1.out⟩
   ·have hz2:(E==0)=false:=by rw[tT];exact hz
    have hd:X=false:=by rw[hx];exact dF (fun h=>hz h.1)
    rw[hd];clear hx hd;go_enter Tryz.func116,Tryz.ntmps116
    go_wp2_with (go_at_call 151;refine(HP.out _).mono ?_;rintro e1 w1 ⟨p1,c1,rfl,hb1⟩;have HB1:=lH hb1;clear hb1)
    go_ret;exact⟨rfl,HB1.out⟩
theorem sM (p:UInt8->Bool) (l:List UInt8):l.take (l.takeWhile p).length=l.takeWhile p:=by
 conv=>lhs;rhs;rw[<-List.takeWhile_append_dropWhile (p:=p) (l:=l)]
 exact List.take_left' rfl
theorem sL (p:UInt8->Bool) (l:List UInt8):l.drop (l.takeWhile p).length=l.dropWhile p:=by
 conv=>lhs;rhs;rw[<-List.takeWhile_append_dropWhile (p:=p) (l:=l)]
 exact List.drop_left' rfl
theorem mp (s:ByteArray) (hs:s.size<=999999) (w:World):Calls Tryz.prog 95 #[.string s] w fun e w'=>e=.returned (.tuple #[.int .i64 (aQ s.data.toList).1,.int .i64 (aQ s.data.toList).2])/\Below w.heap.size w w':=by
 rw[jx];by_cases hl:s.data.toList=[]
 ·rw[if_pos hl]
  have he:s.toList.isEmpty=true:=by rw[af,hl];rfl
  go_enter Tryz.func95,Tryz.ntmps95
  go_wp2_with fail
  go_ret2
  exact⟨rfl,tU _ _⟩
 ·rw[if_neg hl]
  have hb:s.toList.isEmpty=false:=by
   rw[af];cases e:s.data.toList with
   | nil=>exact absurd e hl
   | cons a b=>rfl
  have hN:qi s<=s.size:=by rw[Lib.size_eq];exact(List.takeWhile_sublist _).length_le
  have hA:(s.extract 0 (qi s)).data.toList=s.data.toList.takeWhile cM:=by
   rw[Lib.extract_data,us,Nat.sub_zero];exact sM _ _
  have hZ:(s.extract (qi s) s.size).data.toList=s.data.toList.dropWhile cM:=by
   rw[Lib.extract_data,uu (by rw[t7,<-Lib.size_eq];omega)];exact sL _ _
  have hAs:(s.extract 0 (qi s)).size<=999999:=by rw[uZ];omega
  have hZs:(s.extract (qi s) s.size).size<=999999:=by rw[uZ];omega
  have HS:=lH (mq s (by omega) w);generalize s.extract 0 (qi s)=A at hA hAs HS;generalize s.extract (qi s) s.size=Z at hZ hZs HS;have HX:=lH (fun W=>qH Z hZs W);rw[hZ] at HX;by_cases h1:s.data.toList.takeWhile cM=[]
  ·rw[if_pos (Or.inl h1)]
   have ha:A.toList.isEmpty=true:=by rw[af,hA,h1];rfl
   go_enter Tryz.func95,Tryz.ntmps95
   go_wp2_with (go_at_call 115;refine HS.out.mono ?_;rintro e1 w1 ⟨rfl,hb1⟩;have HB1:=lH hb1;clear hb1)
   go_ret2
   exact⟨rfl,HB1.out⟩
  ·have ha:A.toList.isEmpty=false:=by
    rw[af,hA];cases e:s.data.toList.takeWhile cM with
    | nil=>exact absurd e h1
    | cons a b=>rfl
   cases h2:oH (s.data.toList.dropWhile cM) with
   | false=>
     rw[if_pos (Or.inr rfl)];rw[h2] at HX;go_enter Tryz.func95,Tryz.ntmps95
     go_wp2_with (first|(go_at_call 115;refine HS.out.mono ?_;rintro e1 w1 ⟨rfl,hb1⟩;have HB1:=lH hb1;clear hb1)|(go_at_call 116;refine(HX.out _).mono ?_;rintro e2 w2 ⟨rfl,hb2⟩;have HB2:=lH (HB1.out.trans (hb2.mono HB1.out.size));clear hb2))
     go_ret2
     exact⟨rfl,HB2.out⟩
   | true=>
     rw[if_neg (by simp[h1])];rw[h2] at HX;rw[<-hA];obtain⟨n,e,hne⟩:∃n e,al A.data.toList 16 2147483647=(n,e):=⟨_,_,rfl⟩;rw[hne];have HH:=lH (fun W=>sf A 2147483647 (by omega) (by decide) (by decide) n e hne W);clear hne;go_enter Tryz.func95,Tryz.ntmps95
     go_wp2_with (first|(go_at_call 115;refine HS.out.mono ?_;rintro e1 w1 ⟨rfl,hb1⟩;have HB1:=lH hb1;clear hb1)|(go_at_call 116;refine(HX.out _).mono ?_;rintro e2 w2 ⟨rfl,hb2⟩;have HB2:=lH (HB1.out.trans (hb2.mono HB1.out.size));clear hb2)|(go_at_call 117;refine(HH.out _).mono ?_;rintro e3 w3 ⟨rfl,hb3⟩;have HB3:=lH (HB2.out.trans (hb3.mono HB2.out.size));clear hb3))
     go_ret2
     exact⟨rfl,HB3.out⟩
end Go.Proofs.YthjbodpeckebiaaGreatDoor