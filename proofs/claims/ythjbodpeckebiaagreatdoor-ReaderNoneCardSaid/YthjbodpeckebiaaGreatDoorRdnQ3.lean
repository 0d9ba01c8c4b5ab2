/- Texts packed for one claim, 3 of 48: Octet OctetRef Digits. -/
import Derived.Test.YthjbodpeckebiaaGreatDoorRdnQ2
import Derived.Lib.OthersKept
import Derived.Lib.Strings
set_option maxRecDepth 100000
set_option maxHeartbeats 16000000
set_option linter.unusedSimpArgs false
set_option linter.unusedVariables false
-- Octet
namespace Go.Proofs.YthjbodpeckebiaaGreatDoor
open Go.RowKit
/-! The plain answers. -/
def fA:List UInt8:=[33,35,36,37,38,39,42,43,45,46,94,95,96,124,126]
def eJ:ByteArray:=⟨#[33,35,36,37,38,39,42,43,45,46,94,95,96,124,126]⟩
def ie (r:Int):Bool:=decide (97<=r/\r<=122)||decide (65<=r/\r<=90)||decide (48<=r/\r<=57)
def aD (r:Int):Bool:=ie r||fA.any fun m=>decide ((m.toNat:Int)=r)
def ay (r:Int):Bool:=decide (r=9)||decide (32<=r/\r≠127)
def dM (r:Int):Bool:=decide (33<=r/\r<=126)
def dV (l:List UInt8):Bool:=!l.isEmpty&&l.all fun b=>aD b.toNat
def gW (l:List UInt8):Bool:=l.all fun b=>ay b.toNat
def gj (l:List UInt8):Bool:=!l.isEmpty&&l.all fun b=>dM b.toNat
theorem mf {r:Int} (h:(97<=r/\r<=122)\/(65<=r/\r<=90)\/(48<=r/\r<=57)):ie r=true:=by
 unfold ie;rw[uM,uM,tY,tY,tY];omega
theorem gm {r:Int} (h:¬((97<=r/\r<=122)\/(65<=r/\r<=90)\/(48<=r/\r<=57))):ie r=false:=by
 unfold ie;rw[Bool.or_eq_false_iff,Bool.or_eq_false_iff,tZ,tZ,tZ];omega
theorem o7 (k:Nat) (h:k<15):∃m,fA[k]? = some m/\∀h':k<eJ.size,eJ[k]=m:=by
 have hk:k<fA.length:=h;exact⟨fA[k],tW hk,fun h'=>rfl⟩
theorem ly:∀m∈fA,m.toNat<128:=by decide
theorem gC {r:Int} (h:128<=r):aD r=false:=by
 unfold aD;rw[Bool.or_eq_false_iff,List.any_eq_false];refine⟨gm (by omega),fun m hm=>?_⟩;have:=ly m hm;rw[tY];omega
theorem lY {r:Int} {m:UInt8} (hm:m∈fA) (h:(m.toNat:Int)=r):aD r=true:=by
 unfold aD;rw[uM,List.any_eq_true];exact .inr ⟨m,hm,by rw[tY];exact h⟩
theorem l5 {r:Int} (ha:ie r=false) (h:∀j:Nat,j<15->∀m,fA[j]? = some m->(m.toNat:Int)≠r):aD r=false:=by
 unfold aD;rw[Bool.or_eq_false_iff,List.any_eq_false];refine⟨ha,fun m hm=>?_⟩;obtain⟨j,hj⟩:=vi.1 hm;rw[tY];have hjl:j<fA.length:=(List.getElem?_eq_some_iff.1 hj).1;exact h j hjl m hj
theorem j4 (r:Int) (h0:0<=r) (w:World):Calls Tryz.prog 203 #[.int .i32 r] w fun e w'=>e=.returned (.bool (aD r))/\Below w.heap.size w w':=by
 by_cases ha:ie r=true
 ·have hT:aD r=true:=by unfold aD;rw[ha];rfl
  have HT:=lH hT;clear hT
  have h3:(97<=r/\r<=122)\/(65<=r/\r<=90)\/(48<=r/\r<=57):=by
   by_cases h:(97<=r/\r<=122)\/(65<=r/\r<=90)\/(48<=r/\r<=57)
   ·exact h
   ·rw[gm h] at ha;cases ha
  clear ha;rcases h3 with ⟨h1,h2⟩|⟨h1,h2⟩|⟨h1,h2⟩
  all_goals
   go_enter Tryz.func203,Tryz.ntmps203
   go_wp2_with fail
   go_ret;rw[HT.out];exact⟨rfl,tU _ _⟩
 ·rw[Bool.not_eq_true] at ha
  have HA:=lH ha
  have h4:r<48\/(57<r/\r<65)\/(90<r/\r<97)\/122<r:=by
   rcases (by omega:(r<48\/(57<r/\r<65)\/(90<r/\r<97)\/122<r)\/((97<=r/\r<=122)\/(65<=r/\r<=90)\/(48<=r/\r<=57))) with h|h
   ·exact h
   ·rw[mf h] at ha;cases ha
  clear ha;rcases h4 with h1|⟨h1,h2⟩|⟨h1,h2⟩|h1
  all_goals
   go_enter Tryz.func203,Tryz.ntmps203
   go_wp2_with fail
   go_loopw [] (fun wr=>∃pos:Nat,pos<=15/\wr.heap[w.heap.size]? = some (.stringIter eJ pos)/\Below w.heap.size w wr/\∀j:Nat,j<pos->∀m,fA[j]? = some m->(m.toNat:Int)≠r) (fun wr=>15 - wr.iterPos w.heap.size)
   case atStart=>
    refine⟨0,by omega,?_,(tU _ _).alloc (nR _) _,fun j hj=>by omega⟩;exact World.iter_heap w eJ 0
   case round=>
    obtain⟨pos,hp,hit,hbw,hall⟩:=hrel;have HALL:=lH hall;have HIT:=lH hit;have HBW:=lH hbw;have hsz:w.heap.size<wr.heap.size:=(ua.1 hit).1;clear hall hit hbw;by_cases hlt:pos<15
    ·obtain⟨m,hm,hmg⟩:=o7 pos hlt
     have hms:pos<eJ.size:=hlt
     have hnx:∀ty,(Instr.next (.pointer (some ⟨w.heap.size,0,none⟩)) true ty).run Tryz.prog wr=.ok (.tuple #[.bool true,.int .i64 pos,.int .i32 m.toNat]) (wr.iterAt w.heap.size eJ (pos+1)):=fun ty=>by
      rw[Lib.run_next_ascii_at wr w.heap.size eJ pos ty HIT.out hms (by rw[hmg hms];exact ly m (List.mem_of_getElem? hm)),hmg hms]
     have hit2:=Lib.iterAt_heap wr w.heap.size eJ pos (pos+1) HIT.out;have hbw2:=vr HBW.out (k:=w.heap.size) (nR _) eJ (pos+1);have HIT2:=lH hit2;have HBW2:=lH hbw2;have HM:=lH hm;obtain⟨mi,hmi⟩:∃mi:Int,mi=m.toNat:=⟨_,rfl⟩;rw[<-hmi] at hnx;have HMI:=lH hmi;clear hm hmg hit2 hbw2 hmi;by_cases he:mi=r
     ·have hT:Hid (aD r=true):=lY (List.mem_of_getElem? HM.out) (by rw[<-HMI.out];exact he)
      subst he;go_wp2_with fail
      go_ret;rw[hT.out];exact⟨rfl,HBW2.out⟩
     ·have he2:(mi==r)=false:=by simpa using he
      have HE:=lH he;clear he;go_wp2_with fail
      go_roundw
      case rel=>
       refine⟨pos+1,by omega,HIT2.out,HBW2.out,fun j hj m' hm'=>?_⟩;by_cases hjp:j=pos
       ·subst hjp
        rw[HM.out] at hm';cases hm'
        rw[<-HMI.out];exact HE.out
       ·exact HALL.out j (by omega) m' hm'
      case measure=>
       simp only[World.iterPos,HIT2.out,HIT.out];omega
    ·obtain rfl:pos=15:=by omega
     have hnx:∀ty,(Instr.next (.pointer (some ⟨w.heap.size,0,none⟩)) true ty).run Tryz.prog wr=_:=fun ty=>vh wr w.heap.size eJ 15 ty HIT.out (by decide);have hT:Hid (aD r=false):=l5 HA.out HALL.out;go_wp2_with fail
     go_ret;rw[hT.out];exact⟨rfl,HBW.out⟩
/-! Where a rune ends. -/
theorem kV (s:ByteArray) (pos:Nat) (h:pos<s.size) (ha:128<=(s[pos]'h).toNat):∀k,k<(Utf8.decode s pos).2->pos+k<s.size/\128<=(s.get! (pos+k)).toNat:=by
 have h0:s.get! pos=s[pos]:=by simp[ByteArray.get!,getElem!_pos,h];rfl
 have hb:128<=(s.get! (pos+0)).toNat:=by rw[Nat.add_zero,h0];exact ha
 intro k hk;by_cases hk0:k=0
 ·subst hk0;exact⟨h,hb⟩
 have hn:¬(s.get! (pos+0)).toNat<128:=by omega
 simp only[Utf8.decode,hn,if_false] at hk;repeat' split at hk
 all_goals simp only[ux,tY,uB] at *
 all_goals
  rcases (show k=1\/k=2\/k=3 by omega) with rfl|rfl|rfl<;>first|(exfalso;omega)|(refine⟨?_,?_⟩<;>omega)
theorem ei {s:ByteArray} {q:UInt8->Bool} {pos n:Nat} (h:(s.data.toList.take pos).all q=true) (hn:pos+n<=s.size) (hq:∀k,k<n->q (s.get! (pos+k))=true):(s.data.toList.take (pos+n)).all q=true:=by
 induction n with
 | zero=>exact h
 | succ n ih=>
   have h1:=ih (by omega) (fun k hk=>hq k (by omega))
   have hl:pos+n<s.data.toList.length:=by
    have:=Lib.size_eq s;omega
   rw[<-uY,uj hl,List.all_append,h1,Bool.true_and]
   have hg:s.data.toList[pos+n]=s.get! (pos+n):=by
    have hs:pos+n<s.size:=by omega
    rw[show s.get! (pos+n)=s[pos+n] from by simp[ByteArray.get!,getElem!_pos,hs];rfl];rfl
   simp only[List.all_cons,List.all_nil,Bool.and_true,hg];exact hq n (by omega)
theorem cG {s:ByteArray} {q:UInt8->Bool} {pos:Nat} (h:pos<s.size) (hq:q s[pos]=false):s.data.toList.all q=false:=by
 rw[List.all_eq_false];refine⟨s[pos],?_,by rw[hq];exact Bool.false_ne_true⟩
 have hl:pos<s.data.toList.length:=by
  have:=Lib.size_eq s;omega
 have:s.data.toList[pos]=s[pos]:=rfl;rw[<-this];exact List.getElem_mem hl
theorem ib {s:ByteArray} {q:UInt8->Bool} {pos:Nat} (h:(s.data.toList.take pos).all q=true) (hp:¬pos<s.size):s.data.toList.all q=true:=by
 rwa [uu (by rw[<-Lib.size_eq];omega)] at h
theorem iv {s:ByteArray} {pos:Nat} (h:pos<s.size):s.get! pos=s[pos]:=by simp[ByteArray.get!,getElem!_pos,h];rfl
theorem rS (s:ByteArray) (hs:s.size<=9223372036854775807) (w:World):Calls Tryz.prog 202 #[.string s,.func (.func 203) #[] #[]] w fun e w'=>e=.returned (.bool (s.data.toList.all fun b=>aD b.toNat))/\Below w.heap.size w w':=by
 go_enter Tryz.func202,Tryz.ntmps202
 go_wp2_with fail
 go_loopw [] (fun wr=>∃pos:Nat,pos<=s.size/\wr.heap[w.heap.size]? = some (.stringIter s pos)/\Below w.heap.size w wr/\(s.data.toList.take pos).all (fun b=>aD b.toNat)=true) (fun wr=>s.size - wr.iterPos w.heap.size)
 case atStart=>exact⟨0,by omega,World.iter_heap w s 0,(tU _ _).alloc (nR _) _,rfl⟩
 case round=>
  obtain⟨pos,hp,hit,hbw,hall⟩:=hrel;have HALL:=lH hall;have HIT:=lH hit;have HBW:=lH hbw;have hsz:w.heap.size<wr.heap.size:=(ua.1 hit).1;clear hall hit hbw;by_cases hlt:pos<s.size
  ·obtain⟨r,hr⟩:∃r:Int,r=((Utf8.decode s pos).1:Int):=⟨_,rfl⟩
   obtain⟨wd,hwd⟩:∃wd,wd=(Utf8.decode s pos).2:=⟨_,rfl⟩
   have hnx:∀ty,(Instr.next (.pointer (some ⟨w.heap.size,0,none⟩)) true ty).run Tryz.prog wr=.ok (.tuple #[.bool true,.int .i64 pos,.int .i32 r]) (wr.iterAt w.heap.size s (pos+wd)):=fun ty=>by
    rw[vq wr w.heap.size s pos ty HIT.out hlt,hr,hwd]
   have hr0:0<=r:=by omega
   have hwd1:1<=wd:=by
    rw[hwd];by_cases ha:(s[pos]'hlt).toNat<128
    ·rw[decode_ascii s pos hlt ha];exact nR _
    ·exact(decode_high s pos hlt (by omega)).2
   have hq:aD r=aD (s[pos]'hlt).toNat/\(aD r=true->pos+wd<=s.size/\∀k,k<wd->aD (s.get! (pos+k)).toNat=true):=by
    by_cases ha:(s[pos]'hlt).toNat<128
    ·rw[decode_ascii s pos hlt ha] at hr hwd
     subst hr hwd;refine⟨rfl,fun h=>⟨by omega,fun k hk=>?_⟩⟩;obtain rfl:k=0:=by omega
     rw[Nat.add_zero,iv hlt];exact h
    ·have h1:=(decode_high s pos hlt (by omega)).1
     rw[gC (r:=r) (by omega),gC (r:=(s[pos]'hlt).toNat) (by omega)];refine⟨rfl,fun h=>?_⟩;cases h
   have HQ:=lH hq;have hit2:=Lib.iterAt_heap wr w.heap.size s pos (pos+wd) HIT.out;have hbw2:=vr HBW.out (k:=w.heap.size) (nR _) s (pos+wd);have HIT2:=lH hit2;have HBW2:=lH hbw2;clear hr hwd hq hit2 hbw2;go_wp2_with fail
   refine(j4 _ (by omega) _).mono ?_;rintro e w1 ⟨rfl,hb1⟩;have hbw3:=HBW2.out.trans (hb1.mono (by rw[Lib.iterAt_size];omega));have hit3:w1.heap[w.heap.size]? = some (.stringIter s (pos+wd)):=(hb1.block w.heap.size (by rw[Lib.iterAt_size];omega)).trans HIT2.out;have HIT3:=lH hit3;have HBW3:=lH hbw3;clear hit3 hbw3 hb1;obtain⟨v,hv⟩:∃v,v=aD r:=⟨_,rfl⟩;rw[<-hv];have HV:=lH hv;clear hv;cases v
   ·go_wp2_with fail
    go_ret;rw[cG hlt (q:=fun b=>aD b.toNat) (by rw[HV.out];exact HQ.out.1.symm)];exact⟨rfl,HBW3.out⟩
   ·go_wp2_with fail
    go_roundw
    case rel=>
     have h2:=HQ.out.2 HV.out.symm;exact⟨pos+wd,h2.1,HIT3.out,HBW3.out,ei HALL.out h2.1 h2.2⟩
    case measure=>
     simp only[World.iterPos,HIT3.out,HIT.out];omega
  ·have hnx:∀ty,(Instr.next (.pointer (some ⟨w.heap.size,0,none⟩)) true ty).run Tryz.prog wr=_:=fun ty=>vh wr w.heap.size s pos ty HIT.out hlt
   have hT:Hid ((s.data.toList.all fun b=>aD b.toNat)=true):=ib HALL.out hlt;go_wp2_with fail
   go_ret;rw[hT.out];exact⟨rfl,HBW.out⟩
theorem nw (r:Int) (w:World):Calls Tryz.prog 207 #[.int .i32 r] w fun e w'=>e=.returned (.bool (ay r))/\Below w.heap.size w w':=by
 have hv:∀b,b=ay r->Hid (b=ay r):=fun _ h=>h;rcases (by omega:r=9\/(r≠9/\r<32)\/(32<=r/\r=127)\/(32<=r/\r≠127)) with h|⟨h1,h2⟩|⟨h1,h2⟩|⟨h1,h2⟩
 ·have HV:=hv true (by unfold ay;rw[h];rfl)
  subst h;go_enter Tryz.func207,Tryz.ntmps207
  go_wp2_with fail
  go_ret;rw[<-HV.out];exact⟨rfl,tU _ _⟩
 ·have HV:=hv false (by unfold ay;symm;rw[Bool.or_eq_false_iff,tZ,tZ];omega)
  have e1:(r==9)=false:=by simpa using h1
  clear h1 hv;go_enter Tryz.func207,Tryz.ntmps207
  go_wp2_with fail
  go_ret;rw[<-HV.out];exact⟨rfl,tU _ _⟩
 ·have HV:=hv false (by unfold ay;symm;rw[Bool.or_eq_false_iff,tZ,tZ];omega)
  subst h2;go_enter Tryz.func207,Tryz.ntmps207
  go_wp2_with fail
  go_ret;rw[<-HV.out];exact⟨rfl,tU _ _⟩
 ·have HV:=hv true (by unfold ay;symm;rw[uM,tY,tY];exact .inr ⟨h1,h2⟩)
  by_cases h9:r=9
  ·omega
  have e1:(r==9)=false:=by simpa using h9
  have e2:(r != 127)=true:=by simpa using h2
  clear h9 hv h2;go_enter Tryz.func207,Tryz.ntmps207
  go_wp2_with fail
  go_ret;rw[<-HV.out];exact⟨rfl,tU _ _⟩
theorem ek {r:Int} (h:128<=r):ay r=true:=by unfold ay;rw[uM,tY,tY];omega
theorem rT (s:ByteArray) (hs:s.size<=9223372036854775807) (w:World):Calls Tryz.prog 202 #[.string s,.func (.func 207) #[] #[]] w fun e w'=>e=.returned (.bool (s.data.toList.all fun b=>ay b.toNat))/\Below w.heap.size w w':=by
 go_enter Tryz.func202,Tryz.ntmps202
 go_wp2_with fail
 go_loopw [] (fun wr=>∃pos:Nat,pos<=s.size/\wr.heap[w.heap.size]? = some (.stringIter s pos)/\Below w.heap.size w wr/\(s.data.toList.take pos).all (fun b=>ay b.toNat)=true) (fun wr=>s.size - wr.iterPos w.heap.size)
 case atStart=>exact⟨0,by omega,World.iter_heap w s 0,(tU _ _).alloc (nR _) _,rfl⟩
 case round=>
  obtain⟨pos,hp,hit,hbw,hall⟩:=hrel;have HALL:=lH hall;have HIT:=lH hit;have HBW:=lH hbw;have hsz:w.heap.size<wr.heap.size:=(ua.1 hit).1;clear hall hit hbw;by_cases hlt:pos<s.size
  ·obtain⟨r,hr⟩:∃r:Int,r=((Utf8.decode s pos).1:Int):=⟨_,rfl⟩
   obtain⟨wd,hwd⟩:∃wd,wd=(Utf8.decode s pos).2:=⟨_,rfl⟩
   have hnx:∀ty,(Instr.next (.pointer (some ⟨w.heap.size,0,none⟩)) true ty).run Tryz.prog wr=.ok (.tuple #[.bool true,.int .i64 pos,.int .i32 r]) (wr.iterAt w.heap.size s (pos+wd)):=fun ty=>by
    rw[vq wr w.heap.size s pos ty HIT.out hlt,hr,hwd]
   have hr0:0<=r:=by omega
   have hwd1:1<=wd:=by
    rw[hwd];by_cases ha:(s[pos]'hlt).toNat<128
    ·rw[decode_ascii s pos hlt ha];exact nR _
    ·exact(decode_high s pos hlt (by omega)).2
   have hq:ay r=ay (s[pos]'hlt).toNat/\(ay r=true->pos+wd<=s.size/\∀k,k<wd->ay (s.get! (pos+k)).toNat=true):=by
    by_cases ha:(s[pos]'hlt).toNat<128
    ·rw[decode_ascii s pos hlt ha] at hr hwd
     subst hr hwd;refine⟨rfl,fun h=>⟨by omega,fun k hk=>?_⟩⟩;obtain rfl:k=0:=by omega
     rw[Nat.add_zero,iv hlt];exact h
    ·have h1:=(decode_high s pos hlt (by omega)).1
     rw[ek (r:=r) (by omega),ek (r:=(s[pos]'hlt).toNat) (by omega)];refine⟨rfl,fun h=>?_⟩;have hc:=kV s pos hlt (by omega);rw[<-hwd] at hc;refine⟨?_,fun k hk=>ek (by have:=(hc k hk).2;omega)⟩;have:=(hc (wd - 1) (by omega)).1;omega
   have HQ:=lH hq;have hit2:=Lib.iterAt_heap wr w.heap.size s pos (pos+wd) HIT.out;have hbw2:=vr HBW.out (k:=w.heap.size) (nR _) s (pos+wd);have HIT2:=lH hit2;have HBW2:=lH hbw2;clear hr hwd hq hit2 hbw2;go_wp2_with fail
   refine(nw _ _).mono ?_;rintro e w1 ⟨rfl,hb1⟩;have hbw3:=HBW2.out.trans (hb1.mono (by rw[Lib.iterAt_size];omega));have hit3:w1.heap[w.heap.size]? = some (.stringIter s (pos+wd)):=(hb1.block w.heap.size (by rw[Lib.iterAt_size];omega)).trans HIT2.out;have HIT3:=lH hit3;have HBW3:=lH hbw3;clear hit3 hbw3 hb1;obtain⟨v,hv⟩:∃v,v=ay r:=⟨_,rfl⟩;rw[<-hv];have HV:=lH hv;clear hv;cases v
   ·go_wp2_with fail
    go_ret;rw[cG hlt (q:=fun b=>ay b.toNat) (by rw[HV.out];exact HQ.out.1.symm)];exact⟨rfl,HBW3.out⟩
   ·go_wp2_with fail
    go_roundw
    case rel=>
     have h2:=HQ.out.2 HV.out.symm;exact⟨pos+wd,h2.1,HIT3.out,HBW3.out,ei HALL.out h2.1 h2.2⟩
    case measure=>
     simp only[World.iterPos,HIT3.out,HIT.out];omega
  ·have hnx:∀ty,(Instr.next (.pointer (some ⟨w.heap.size,0,none⟩)) true ty).run Tryz.prog wr=_:=fun ty=>vh wr w.heap.size s pos ty HIT.out hlt
   have hT:Hid ((s.data.toList.all fun b=>ay b.toNat)=true):=ib HALL.out hlt;go_wp2_with fail
   go_ret;rw[hT.out];exact⟨rfl,HBW.out⟩
theorem kJ (r:Int) (w:World):Calls Tryz.prog 204 #[.int .i32 r] w fun e w'=>e=.returned (.bool (dM r))/\Below w.heap.size w w':=by
 have hv:∀b,b=dM r->Hid (b=dM r):=fun _ h=>h;rcases (by omega:r<=32\/(32<r/\r<127)\/127<=r) with h1|⟨h1,h2⟩|h1
 ·have HV:=hv false (by unfold dM;symm;rw[tZ];omega)
  go_enter Tryz.func204,Tryz.ntmps204
  go_wp2_with fail
  go_ret;rw[<-HV.out];exact⟨rfl,tU _ _⟩
 ·have HV:=hv true (by unfold dM;symm;rw[tY];omega)
  go_enter Tryz.func204,Tryz.ntmps204
  go_wp2_with fail
  go_ret;rw[<-HV.out];exact⟨rfl,tU _ _⟩
 ·have HV:=hv false (by unfold dM;symm;rw[tZ];omega)
  have hd:decide (r<127)=false:=by rw[tZ];omega
  go_enter Tryz.func204,Tryz.ntmps204
  go_wp2_with fail
  go_ret;rw[<-HV.out];exact⟨rfl,tU _ _⟩
theorem j6 {r:Int} (h:128<=r):dM r=false:=by unfold dM;rw[tZ];omega
theorem rU (s:ByteArray) (hs:s.size<=9223372036854775807) (w:World):Calls Tryz.prog 202 #[.string s,.func (.func 204) #[] #[]] w fun e w'=>e=.returned (.bool (s.data.toList.all fun b=>dM b.toNat))/\Below w.heap.size w w':=by
 go_enter Tryz.func202,Tryz.ntmps202
 go_wp2_with fail
 go_loopw [] (fun wr=>∃pos:Nat,pos<=s.size/\wr.heap[w.heap.size]? = some (.stringIter s pos)/\Below w.heap.size w wr/\(s.data.toList.take pos).all (fun b=>dM b.toNat)=true) (fun wr=>s.size - wr.iterPos w.heap.size)
 case atStart=>exact⟨0,by omega,World.iter_heap w s 0,(tU _ _).alloc (nR _) _,rfl⟩
 case round=>
  obtain⟨pos,hp,hit,hbw,hall⟩:=hrel;have HALL:=lH hall;have HIT:=lH hit;have HBW:=lH hbw;have hsz:w.heap.size<wr.heap.size:=(ua.1 hit).1;clear hall hit hbw;by_cases hlt:pos<s.size
  ·obtain⟨r,hr⟩:∃r:Int,r=((Utf8.decode s pos).1:Int):=⟨_,rfl⟩
   obtain⟨wd,hwd⟩:∃wd,wd=(Utf8.decode s pos).2:=⟨_,rfl⟩
   have hnx:∀ty,(Instr.next (.pointer (some ⟨w.heap.size,0,none⟩)) true ty).run Tryz.prog wr=.ok (.tuple #[.bool true,.int .i64 pos,.int .i32 r]) (wr.iterAt w.heap.size s (pos+wd)):=fun ty=>by
    rw[vq wr w.heap.size s pos ty HIT.out hlt,hr,hwd]
   have hr0:0<=r:=by omega
   have hwd1:1<=wd:=by
    rw[hwd];by_cases ha:(s[pos]'hlt).toNat<128
    ·rw[decode_ascii s pos hlt ha];exact nR _
    ·exact(decode_high s pos hlt (by omega)).2
   have hq:dM r=dM (s[pos]'hlt).toNat/\(dM r=true->pos+wd<=s.size/\∀k,k<wd->dM (s.get! (pos+k)).toNat=true):=by
    by_cases ha:(s[pos]'hlt).toNat<128
    ·rw[decode_ascii s pos hlt ha] at hr hwd
     subst hr hwd;refine⟨rfl,fun h=>⟨by omega,fun k hk=>?_⟩⟩;obtain rfl:k=0:=by omega
     rw[Nat.add_zero,iv hlt];exact h
    ·have h1:=(decode_high s pos hlt (by omega)).1
     rw[j6 (r:=r) (by omega),j6 (r:=(s[pos]'hlt).toNat) (by omega)];refine⟨rfl,fun h=>?_⟩;cases h
   have HQ:=lH hq;have hit2:=Lib.iterAt_heap wr w.heap.size s pos (pos+wd) HIT.out;have hbw2:=vr HBW.out (k:=w.heap.size) (nR _) s (pos+wd);have HIT2:=lH hit2;have HBW2:=lH hbw2;clear hr hwd hq hit2 hbw2;go_wp2_with fail
   refine(kJ _ _).mono ?_;rintro e w1 ⟨rfl,hb1⟩;have hbw3:=HBW2.out.trans (hb1.mono (by rw[Lib.iterAt_size];omega));have hit3:w1.heap[w.heap.size]? = some (.stringIter s (pos+wd)):=(hb1.block w.heap.size (by rw[Lib.iterAt_size];omega)).trans HIT2.out;have HIT3:=lH hit3;have HBW3:=lH hbw3;clear hit3 hbw3 hb1;obtain⟨v,hv⟩:∃v,v=dM r:=⟨_,rfl⟩;rw[<-hv];have HV:=lH hv;clear hv;cases v
   ·go_wp2_with fail
    go_ret;rw[cG hlt (q:=fun b=>dM b.toNat) (by rw[HV.out];exact HQ.out.1.symm)];exact⟨rfl,HBW3.out⟩
   ·go_wp2_with fail
    go_roundw
    case rel=>
     have h2:=HQ.out.2 HV.out.symm;exact⟨pos+wd,h2.1,HIT3.out,HBW3.out,ei HALL.out h2.1 h2.2⟩
    case measure=>
     simp only[World.iterPos,HIT3.out,HIT.out];omega
  ·have hnx:∀ty,(Instr.next (.pointer (some ⟨w.heap.size,0,none⟩)) true ty).run Tryz.prog wr=_:=fun ty=>vh wr w.heap.size s pos ty HIT.out hlt
   have hT:Hid ((s.data.toList.all fun b=>dM b.toNat)=true):=ib HALL.out hlt;go_wp2_with fail
   go_ret;rw[hT.out];exact⟨rfl,HBW.out⟩
theorem af (s:ByteArray):s.toList.isEmpty=s.data.toList.isEmpty:=by rw[u1]
theorem dp (s:ByteArray) (hs:s.size<=9223372036854775807) (w:World):Calls Tryz.prog 165 #[.string s] w fun e w'=>e=.returned (.bool (dV s.data.toList))/\Below w.heap.size w w':=by
 have hv:∀b,b=dV s.data.toList->Hid (b=dV s.data.toList):=fun _ h=>h;cases h:s.data.toList.isEmpty
 ·have HV:=hv (s.data.toList.all fun b=>aD b.toNat) (by unfold dV;rw[h];rfl)
  have h2:s.toList.isEmpty=false:=by rw[af];exact h
  clear h hv;go_enter Tryz.func165,Tryz.ntmps165
  go_wp2_with fail
  refine(rS s hs _).mono ?_;rintro e w1 ⟨rfl,hb1⟩;rw[HV.out];go_wp2_with fail
  go_ret;exact⟨rfl,hb1⟩
 ·have HV:=hv false (by unfold dV;rw[h];rfl)
  have h2:s.toList.isEmpty=true:=by rw[af];exact h
  clear h hv;go_enter Tryz.func165,Tryz.ntmps165
  go_wp2_with fail
  go_ret;rw[<-HV.out];exact⟨rfl,tU _ _⟩
theorem gG (s:ByteArray) (hs:s.size<=9223372036854775807) (w:World):Calls Tryz.prog 166 #[.string s] w fun e w'=>e=.returned (.bool (gj s.data.toList))/\Below w.heap.size w w':=by
 have hv:∀b,b=gj s.data.toList->Hid (b=gj s.data.toList):=fun _ h=>h;cases h:s.data.toList.isEmpty
 ·have HV:=hv (s.data.toList.all fun b=>dM b.toNat) (by unfold gj;rw[h];rfl)
  have h2:s.toList.isEmpty=false:=by rw[af];exact h
  clear h hv;go_enter Tryz.func166,Tryz.ntmps166
  go_wp2_with fail
  refine(rU s hs _).mono ?_;rintro e w1 ⟨rfl,hb1⟩;rw[HV.out];go_wp2_with fail
  go_ret;exact⟨rfl,hb1⟩
 ·have HV:=hv false (by unfold gj;rw[h];rfl)
  have h2:s.toList.isEmpty=true:=by rw[af];exact h
  clear h hv;go_enter Tryz.func166,Tryz.ntmps166
  go_wp2_with fail
  go_ret;rw[<-HV.out];exact⟨rfl,tU _ _⟩
theorem dq (s:ByteArray) (hs:s.size<=9223372036854775807) (w:World):Calls Tryz.prog 169 #[.string s] w fun e w'=>e=.returned (.bool (gW s.data.toList))/\Below w.heap.size w w':=by
 obtain⟨b,hb⟩:∃b,b=gW s.data.toList:=⟨_,rfl⟩;have HB:=lH hb;clear hb;go_enter Tryz.func169,Tryz.ntmps169
 go_wp2_with fail
 refine(rT s hs _).mono ?_;rintro e w1 ⟨rfl,hb1⟩;rw[show (s.data.toList.all fun b=>ay b.toNat)=b from HB.out.symm];go_wp2_with fail
 go_ret;rw[<-HB.out];exact⟨rfl,hb1⟩
end Go.Proofs.YthjbodpeckebiaaGreatDoor
-- OctetRef
namespace Go.Proofs.YthjbodpeckebiaaGreatDoor
open Go.RowKit
end Go.Proofs.YthjbodpeckebiaaGreatDoor
-- Digits
namespace Go.Proofs.YthjbodpeckebiaaGreatDoor
open Go.RowKit
def av (r:Int):Int:=if 48<=r/\r<=57 then r - 48 else if 97<=r/\r<=102 then r - 87 else if 65<=r/\r<=70 then r - 55 else -1
theorem eO (r:Int):-1<=av r/\av r<=15:=by
 unfold av;repeat' split
 all_goals omega
theorem cE {r:Int} (h:128<=r):av r=-1:=by
 unfold av;rw[if_neg (by omega),if_neg (by omega),if_neg (by omega)]
def dU (base:Int) (l:List UInt8):Int:=l.foldl (fun n b=>n*base+av b.toNat) 0
def cK (base:Int) (b:UInt8):Bool:=decide (0<=av b.toNat/\av b.toNat<base)
def al (l:List UInt8) (base most:Int):Int×Int:=
 if l.isEmpty then (0,2) else if !(l.all (cK base)) then (0,3) else if dU base l<=most then (dU base l,0) else (0,5)
theorem jR (base:Int) (l:List UInt8) (b:UInt8):dU base (l++[b])=dU base l*base+av b.toNat:=by
 unfold dU;rw[List.foldl_append];rfl
theorem jB (r:Int) (h0:0<=r) (h1:r<=1114111) (w:World):Calls Tryz.prog 198 #[.int .i32 r] w fun e w'=>e=.returned (.int .i64 (av r))/\w=w':=by
 rcases (by omega:r<48\/(48<=r/\r<=57)\/(57<r/\r<65)\/(65<=r/\r<=70)\/(70<r/\r<97)\/(97<=r/\r<=102)\/102<r) with h|⟨h,h'⟩|⟨h,h'⟩|⟨h,h'⟩|⟨h,h'⟩|⟨h,h'⟩|h
 ·have HV:Hid (av r=-1):=by show av r=-1;unfold av;repeat' split;all_goals omega
  go_enter Tryz.func198,Tryz.ntmps198
  go_wp2_with fail
  go_ret;rw[HV.out];exact⟨rfl,rfl⟩
 ·have HV:Hid (av r=r - 48):=by show av r=r - 48;unfold av;repeat' split;all_goals omega
  go_enter Tryz.func198,Tryz.ntmps198
  go_wp2_with fail
  go_ret;rw[HV.out];exact⟨rfl,rfl⟩
 ·have HV:Hid (av r=-1):=by show av r=-1;unfold av;repeat' split;all_goals omega
  go_enter Tryz.func198,Tryz.ntmps198
  go_wp2_with fail
  go_ret;rw[HV.out];exact⟨rfl,rfl⟩
 ·have HV:Hid (av r=r - 65+10):=by show av r=r - 65+10;unfold av;repeat' split;all_goals omega
  go_enter Tryz.func198,Tryz.ntmps198
  go_wp2_with fail
  go_ret;rw[HV.out];exact⟨rfl,rfl⟩
 ·have HV:Hid (av r=-1):=by show av r=-1;unfold av;repeat' split;all_goals omega
  go_enter Tryz.func198,Tryz.ntmps198
  go_wp2_with fail
  go_ret;rw[HV.out];exact⟨rfl,rfl⟩
 ·have HV:Hid (av r=r - 97+10):=by show av r=r - 97+10;unfold av;repeat' split;all_goals omega
  go_enter Tryz.func198,Tryz.ntmps198
  go_wp2_with fail
  go_ret;rw[HV.out];exact⟨rfl,rfl⟩
 ·have HV:Hid (av r=-1):=by show av r=-1;unfold av;repeat' split;all_goals omega
  go_enter Tryz.func198,Tryz.ntmps198
  go_wp2_with fail
  go_ret;rw[HV.out];exact⟨rfl,rfl⟩
theorem gh (s:ByteArray) (k:Nat) (h:k<s.size):s.data.toList.take (k+1)=s.data.toList.take k++[s[k]]:=by
 rw[uj (by simpa using h)];rfl
theorem eV (s:ByteArray) (k:Nat) (h:k<s.size):∃(r:Int) (wd:Nat),r=((Utf8.decode s k).1:Int)/\wd=(Utf8.decode s k).2/\0<=r/\r<=1114111/\1<=wd/\(av r=av (s[k]'h).toNat)/\(0<=av r->wd=1):=by
 have hm:(Utf8.decode s k).1<=1114111:=by
  have hb:∀j,(s.get! (k+j)).toNat<256:=fun j=>(s.get! (k+j)).toNat_lt;have h0:=hb 0;have h1:=hb 1;have h2:=hb 2;have h3:=hb 3;simp only[Utf8.decode];repeat' split
  all_goals simp_all [Utf8.runeError,Utf8.valid]
  all_goals omega
 refine⟨_,_,rfl,rfl,by omega,by omega,?_⟩;by_cases ha:(s[k]'h).toNat<128
 ·rw[decode_ascii s k h ha]
  exact⟨nR _,rfl,fun _=>rfl⟩
 ·have hh:=decode_high s k h (by omega)
  refine⟨hh.2,?_,fun h'=>?_⟩
  ·rw[cE (by omega),cE (by omega)]
  ·rw[cE (by omega)] at h';omega
theorem nM {base:Int} (hb:0<=base):∀(l:List UInt8) (n0:Int),0<=n0->l.all (cK base)=true->0<=l.foldl (fun n b=>n*base+av b.toNat) n0
 | [],n0,h,_=>h
 | b :: l,n0,h,ha=>by
   rw[List.all_cons,ux] at ha;have h2:=ha.1;simp only[cK,tY] at h2;have h3:=Int.mul_nonneg h hb;exact nM hb l (n0*base+av b.toNat) (by omega) ha.2
theorem ks {base:Int} (hb:0<=base) (l:List UInt8) (h:l.all (cK base)=true):0<=dU base l:=nM hb l 0 (Int.le_refl _) h
def g8 (s:ByteArray) (most:Int) (k:Nat) (n:Int) (over:Bool):Prop:=
 (s.data.toList.take k).all (cK 10)=true/\0<=n/\(over=false->n=dU 10 (s.data.toList.take k)/\(k=0\/n<=most))/\(over=true->most<dU 10 (s.data.toList.take k))
theorem g8.next {s:ByteArray} {most:Int} {k:Nat} {n:Int} {over:Bool} (h:g8 s most k n over) (hk:k<s.size) {d:Int} (hd:d=av (s[k]'hk).toNat) (h0:0<=d) (h1:d<10) {n':Int} {over':Bool}
 (ho:over'=false->over=false/\n'=n*10+d/\n'<=most) (ho':over'=true->over=true\/most<d\/(most - d) / 10<n) (hn:0<=n'):g8 s most (k+1) n' over':=by
 obtain⟨a,b,c,e⟩:=h;have hv:=ks (base:=10) (by omega) _ a;unfold g8;rw[gh s k hk,List.all_append,a,jR,<-hd];refine⟨?_,hn,fun hf=>?_,fun ht=>?_⟩
 ·simp only[List.all_cons,List.all_nil,Bool.and_true,Bool.true_and,cK,tY,<-hd]
  exact⟨h0,h1⟩
 ·obtain⟨p,q,r⟩:=ho hf
  have:=(c p).1;exact⟨by rw[q,this],.inr r⟩
 ·cases over
  ·have:=(c rfl).1
   rcases ho' ht with h|h|h
   ·cases h
   ·omega
   ·omega
  ·have:=e rfl
   omega
theorem pi (s:ByteArray) (most:Int) (hs:s.size<=9223372036854775807) (hm:most<=9223372036854775807) (hm0:-9223372036854775808<=most) (n e:Int) (hr:al s.data.toList 10 most=(n,e)) (w:World):
 Calls Tryz.prog 153 #[.string s,.int .i64 10,.int .i64 most] w fun en w'=>en=.returned (.tuple #[.int .i64 n,.int .i64 e])/\Below w.heap.size w w':=by
 have HR:=lH hr;clear hr;cases hz:s.data.toList.isEmpty
 case true=>
  have h2:s.toList.isEmpty=true:=by rw[af];exact hz
  have hr:Hid ((0,2)=(n,e)):=by show (0,2)=(n,e);rw[<-HR.out];unfold al;rw[hz];rfl
  clear hz;go_enter Tryz.func153,Tryz.ntmps153
  go_wp2_with fail
  go_ret2
  obtain⟨rfl,rfl⟩:=uC hr.out;exact⟨rfl,tU _ _⟩
 have h2:s.toList.isEmpty=false:=by rw[af];exact hz
 have HZ:=lH hz;clear hz;go_enter Tryz.func153,Tryz.ntmps153
 go_wp2_with fail
 go_loopw [8,9] (fun nv ov wr=>∃(k:Nat) (m:Int) (over:Bool),nv=.int .i64 m/\ov=.bool over/\m<=9223372036854775807/\k<=s.size/\wr.heap[w.heap.size]? = some (.stringIter s k)/\Below w.heap.size w wr/\g8 s most k m over) (fun _ _ wr=>s.size - wr.iterPos w.heap.size)
 case atStart=>exact⟨0,0,false,rfl,rfl,by omega,by omega,World.iter_heap w s 0,(tU _ _).alloc (nR _) _,rfl,Int.le_refl _,fun _=>⟨rfl,.inl rfl⟩,fun h=>by cases h⟩
 case round=>
  obtain⟨k,m,over,rfl,rfl,hmm,hp,hit,hbw,hI⟩:=hrel;have HI:=lH hI;have HIT:=lH hit;have HBW:=lH hbw;have hm0':0<=m:=hI.2.1;have hsz:w.heap.size<wr.heap.size:=(ua.1 hit).1;clear hI hit hbw;by_cases hlt:k<s.size
  ·obtain⟨r,wd,hr,hwd,hr0,hr1,hwd1,hq,hq1⟩:=eV s k hlt
   have hnx:∀ty,(Instr.next (.pointer (some ⟨w.heap.size,0,none⟩)) true ty).run Tryz.prog wr=.ok (.tuple #[.bool true,.int .i64 k,.int .i32 r]) (wr.iterAt w.heap.size s (k+wd)):=fun ty=>by
    rw[vq wr w.heap.size s k ty HIT.out hlt,hr,hwd]
   have HIT2:=lH (Lib.iterAt_heap wr w.heap.size s k (k+wd) HIT.out);have HBW2:=lH (vr HBW.out (k:=w.heap.size) (nR _) s (k+wd));obtain⟨d,hd⟩:∃d,d=av r:=⟨_,rfl⟩;have hdr:-1<=d/\d<=15:=by rw[hd];exact eO r
   have hd1:=hdr.1;have hd2:=hdr.2;have HD:=lH hd;have HQ:=lH hq;have HQ1:=lH hq1;clear hr hwd hdr hd hq hq1;go_wp2_with fail
   refine(jB r hr0 hr1 _).mono ?_;rintro en w1 ⟨rfl,rfl⟩;rw[<-HD.out];by_cases hbad:d<0\/10<=d
   ·have hR:Hid ((0,3)=(n,e)):=by
     show (0,3)=(n,e);rw[<-HR.out];unfold al;rw[HZ.out,cG hlt (q:=cK 10) (by unfold cK;rw[<-HQ.out,<-HD.out,tZ];omega)];rfl
    rcases hbad with hbad|hbad
    ·go_wp2_with fail
     go_ret2
     obtain⟨rfl,rfl⟩:=uC hR.out;exact⟨rfl,HBW2.out⟩
    ·have cR:0<=d:=by omega
     go_wp2_with fail
     go_ret2
     obtain⟨rfl,rfl⟩:=uC hR.out;exact⟨rfl,HBW2.out⟩
   ·have cR:0<=d:=by omega
    have hdB:d<10:=by omega
    obtain rfl:wd=1:=HQ1.out (by rw[<-HD.out];exact cR);clear hbad;have hdq:Hid (d=av (s[k]'hlt).toNat):=by show d=_;rw[HD.out,HQ.out]
    cases over
    ·by_cases h3:most<d
     ·go_wp2_with fail
      go_roundw
      case rel=>exact⟨k+1,m,true,rfl,rfl,hmm,by omega,HIT2.out,HBW2.out,HI.out.next hlt hdq.out cR hdB (fun h=>by cases h) (fun _=>.inr (.inl h3)) hm0'⟩
      case measure=>
       simp only[World.iterPos,HIT2.out,HIT.out];omega
     ·have h3':d<=most:=by omega
      have hq0:0<=(most - d) / 10:=by omega
      by_cases h4:(most - d) / 10<m
      ·go_wp2_with fail
       go_roundw
       case rel=>exact⟨k+1,m,true,rfl,rfl,hmm,by omega,HIT2.out,HBW2.out,HI.out.next hlt hdq.out cR hdB (fun h=>by cases h) (fun _=>.inr (.inr h4)) hm0'⟩
       case measure=>
        simp only[World.iterPos,HIT2.out,HIT.out];omega
      ·have h5:m*10+d<=most:=by omega
       have e1:decide (most<d)=false:=by rw[tZ];omega
       have e2:decide ((most - d) / 10<m)=false:=by rw[tZ];omega
       go_wp2_with fail
       go_roundw
       case rel=>exact⟨k+1,m*10+d,false,rfl,rfl,by omega,by omega,HIT2.out,HBW2.out,HI.out.next hlt hdq.out cR hdB (fun _=>⟨rfl,rfl,h5⟩) (fun h=>by cases h) (by omega)⟩
       case measure=>
        simp only[World.iterPos,HIT2.out,HIT.out];omega
    ·go_wp2_with fail
     go_roundw
     case rel=>exact⟨k+1,m,true,rfl,rfl,hmm,by omega,HIT2.out,HBW2.out,HI.out.next hlt hdq.out cR hdB (fun h=>by cases h) (fun _=>.inl rfl) hm0'⟩
     case measure=>
      simp only[World.iterPos,HIT2.out,HIT.out];omega
  ·have hnx:∀ty,(Instr.next (.pointer (some ⟨w.heap.size,0,none⟩)) true ty).run Tryz.prog wr=_:=fun ty=>vh wr w.heap.size s k ty HIT.out hlt
   obtain rfl:k=s.size:=by omega
   have hT:s.data.toList.take s.size=s.data.toList:=uu (by rw[<-Lib.size_eq];exact nR _);have HT:=lH hT
   have hz0:s.size≠0:=fun h0=>by
    have h1:=HZ.out;rw[Lib.size_eq,List.length_eq_zero_iff] at h0;rw[h0] at h1;cases h1
   cases over
   ·have hR:Hid ((m,0)=(n,e)):=by
     obtain⟨a,b,c,_⟩:=HI.out;rw[HT.out] at a c;obtain⟨c1,c2⟩:=c rfl;show (m,0)=(n,e);rw[<-HR.out];unfold al;rw[HZ.out,a,<-c1];rcases c2 with c2|c2
     ·exact absurd c2 hz0
     ·simp[c2]
    clear hT hz0;go_wp2_with fail
    go_ret2
    obtain⟨rfl,rfl⟩:=uC hR.out;exact⟨rfl,HBW.out⟩
   ·have hR:Hid ((0,5)=(n,e)):=by
     obtain⟨a,b,_,c⟩:=HI.out;rw[HT.out] at a c;have c1:=c rfl;show (0,5)=(n,e);rw[<-HR.out];unfold al;rw[HZ.out,a,if_neg (by simp),if_neg (by simp),if_neg (by omega)]
    clear hT hz0;go_wp2_with fail
    go_ret2
    obtain⟨rfl,rfl⟩:=uC hR.out;exact⟨rfl,HBW.out⟩
theorem kk (s:ByteArray) (most:Int) (hs:s.size<=9223372036854775807) (hm:most<=9223372036854775807) (hm0:-9223372036854775808<=most) (n e:Int) (hr:al s.data.toList 10 most=(n,e)) (w:World):
 Calls Tryz.prog 145 #[.string s,.int .i64 most] w fun en w'=>en=.returned (.tuple #[.int .i64 n,.int .i64 e])/\Below w.heap.size w w':=by
 have HR:=lH hr;clear hr;go_enter Tryz.func145,Tryz.ntmps145
 go_wp2_with fail
 refine(pi s most hs hm hm0 n e HR.out _).mono ?_;rintro en w1 ⟨rfl,hb⟩;go_wp2_with fail
 go_ret2
 exact⟨rfl,hb⟩
def g9 (s:ByteArray) (most:Int) (k:Nat) (n:Int) (over:Bool):Prop:=
 (s.data.toList.take k).all (cK 16)=true/\0<=n/\(over=false->n=dU 16 (s.data.toList.take k)/\(k=0\/n<=most))/\(over=true->most<dU 16 (s.data.toList.take k))
theorem g9.next {s:ByteArray} {most:Int} {k:Nat} {n:Int} {over:Bool} (h:g9 s most k n over) (hk:k<s.size) {d:Int} (hd:d=av (s[k]'hk).toNat) (h0:0<=d) (h1:d<16) {n':Int} {over':Bool}
 (ho:over'=false->over=false/\n'=n*16+d/\n'<=most) (ho':over'=true->over=true\/most<d\/(most - d) / 16<n) (hn:0<=n'):g9 s most (k+1) n' over':=by
 obtain⟨a,b,c,e⟩:=h;have hv:=ks (base:=16) (by omega) _ a;unfold g9;rw[gh s k hk,List.all_append,a,jR,<-hd];refine⟨?_,hn,fun hf=>?_,fun ht=>?_⟩
 ·simp only[List.all_cons,List.all_nil,Bool.and_true,Bool.true_and,cK,tY,<-hd]
  exact⟨h0,h1⟩
 ·obtain⟨p,q,r⟩:=ho hf
  have:=(c p).1;exact⟨by rw[q,this],.inr r⟩
 ·cases over
  ·have:=(c rfl).1
   rcases ho' ht with h|h|h
   ·cases h
   ·omega
   ·omega
  ·have:=e rfl
   omega
theorem pj (s:ByteArray) (most:Int) (hs:s.size<=9223372036854775807) (hm:most<=9223372036854775807) (hm0:-9223372036854775808<=most) (n e:Int) (hr:al s.data.toList 16 most=(n,e)) (w:World):
 Calls Tryz.prog 153 #[.string s,.int .i64 16,.int .i64 most] w fun en w'=>en=.returned (.tuple #[.int .i64 n,.int .i64 e])/\Below w.heap.size w w':=by
 have HR:=lH hr;clear hr;cases hz:s.data.toList.isEmpty
 case true=>
  have h2:s.toList.isEmpty=true:=by rw[af];exact hz
  have hr:Hid ((0,2)=(n,e)):=by show (0,2)=(n,e);rw[<-HR.out];unfold al;rw[hz];rfl
  clear hz;go_enter Tryz.func153,Tryz.ntmps153
  go_wp2_with fail
  go_ret2
  obtain⟨rfl,rfl⟩:=uC hr.out;exact⟨rfl,tU _ _⟩
 have h2:s.toList.isEmpty=false:=by rw[af];exact hz
 have HZ:=lH hz;clear hz;go_enter Tryz.func153,Tryz.ntmps153
 go_wp2_with fail
 go_loopw [8,9] (fun nv ov wr=>∃(k:Nat) (m:Int) (over:Bool),nv=.int .i64 m/\ov=.bool over/\m<=9223372036854775807/\k<=s.size/\wr.heap[w.heap.size]? = some (.stringIter s k)/\Below w.heap.size w wr/\g9 s most k m over) (fun _ _ wr=>s.size - wr.iterPos w.heap.size)
 case atStart=>exact⟨0,0,false,rfl,rfl,by omega,by omega,World.iter_heap w s 0,(tU _ _).alloc (nR _) _,rfl,Int.le_refl _,fun _=>⟨rfl,.inl rfl⟩,fun h=>by cases h⟩
 case round=>
  obtain⟨k,m,over,rfl,rfl,hmm,hp,hit,hbw,hI⟩:=hrel;have HI:=lH hI;have HIT:=lH hit;have HBW:=lH hbw;have hm0':0<=m:=hI.2.1;have hsz:w.heap.size<wr.heap.size:=(ua.1 hit).1;clear hI hit hbw;by_cases hlt:k<s.size
  ·obtain⟨r,wd,hr,hwd,hr0,hr1,hwd1,hq,hq1⟩:=eV s k hlt
   have hnx:∀ty,(Instr.next (.pointer (some ⟨w.heap.size,0,none⟩)) true ty).run Tryz.prog wr=.ok (.tuple #[.bool true,.int .i64 k,.int .i32 r]) (wr.iterAt w.heap.size s (k+wd)):=fun ty=>by
    rw[vq wr w.heap.size s k ty HIT.out hlt,hr,hwd]
   have HIT2:=lH (Lib.iterAt_heap wr w.heap.size s k (k+wd) HIT.out);have HBW2:=lH (vr HBW.out (k:=w.heap.size) (nR _) s (k+wd));obtain⟨d,hd⟩:∃d,d=av r:=⟨_,rfl⟩;have hdr:-1<=d/\d<=15:=by rw[hd];exact eO r
   have hd1:=hdr.1;have hd2:=hdr.2;have HD:=lH hd;have HQ:=lH hq;have HQ1:=lH hq1;clear hr hwd hdr hd hq hq1;go_wp2_with fail
   refine(jB r hr0 hr1 _).mono ?_;rintro en w1 ⟨rfl,rfl⟩;rw[<-HD.out];by_cases hbad:d<0\/16<=d
   ·have hR:Hid ((0,3)=(n,e)):=by
     show (0,3)=(n,e);rw[<-HR.out];unfold al;rw[HZ.out,cG hlt (q:=cK 16) (by unfold cK;rw[<-HQ.out,<-HD.out,tZ];omega)];rfl
    rcases hbad with hbad|hbad
    ·go_wp2_with fail
     go_ret2
     obtain⟨rfl,rfl⟩:=uC hR.out;exact⟨rfl,HBW2.out⟩
    ·have cR:0<=d:=by omega
     go_wp2_with fail
     go_ret2
     obtain⟨rfl,rfl⟩:=uC hR.out;exact⟨rfl,HBW2.out⟩
   ·have cR:0<=d:=by omega
    have hdB:d<16:=by omega
    obtain rfl:wd=1:=HQ1.out (by rw[<-HD.out];exact cR);clear hbad;have hdq:Hid (d=av (s[k]'hlt).toNat):=by show d=_;rw[HD.out,HQ.out]
    cases over
    ·by_cases h3:most<d
     ·go_wp2_with fail
      go_roundw
      case rel=>exact⟨k+1,m,true,rfl,rfl,hmm,by omega,HIT2.out,HBW2.out,HI.out.next hlt hdq.out cR hdB (fun h=>by cases h) (fun _=>.inr (.inl h3)) hm0'⟩
      case measure=>
       simp only[World.iterPos,HIT2.out,HIT.out];omega
     ·have h3':d<=most:=by omega
      have hq0:0<=(most - d) / 16:=by omega
      by_cases h4:(most - d) / 16<m
      ·go_wp2_with fail
       go_roundw
       case rel=>exact⟨k+1,m,true,rfl,rfl,hmm,by omega,HIT2.out,HBW2.out,HI.out.next hlt hdq.out cR hdB (fun h=>by cases h) (fun _=>.inr (.inr h4)) hm0'⟩
       case measure=>
        simp only[World.iterPos,HIT2.out,HIT.out];omega
      ·have h5:m*16+d<=most:=by omega
       have e1:decide (most<d)=false:=by rw[tZ];omega
       have e2:decide ((most - d) / 16<m)=false:=by rw[tZ];omega
       go_wp2_with fail
       go_roundw
       case rel=>exact⟨k+1,m*16+d,false,rfl,rfl,by omega,by omega,HIT2.out,HBW2.out,HI.out.next hlt hdq.out cR hdB (fun _=>⟨rfl,rfl,h5⟩) (fun h=>by cases h) (by omega)⟩
       case measure=>
        simp only[World.iterPos,HIT2.out,HIT.out];omega
    ·go_wp2_with fail
     go_roundw
     case rel=>exact⟨k+1,m,true,rfl,rfl,hmm,by omega,HIT2.out,HBW2.out,HI.out.next hlt hdq.out cR hdB (fun h=>by cases h) (fun _=>.inl rfl) hm0'⟩
     case measure=>
      simp only[World.iterPos,HIT2.out,HIT.out];omega
  ·have hnx:∀ty,(Instr.next (.pointer (some ⟨w.heap.size,0,none⟩)) true ty).run Tryz.prog wr=_:=fun ty=>vh wr w.heap.size s k ty HIT.out hlt
   obtain rfl:k=s.size:=by omega
   have hT:s.data.toList.take s.size=s.data.toList:=uu (by rw[<-Lib.size_eq];exact nR _);have HT:=lH hT
   have hz0:s.size≠0:=fun h0=>by
    have h1:=HZ.out;rw[Lib.size_eq,List.length_eq_zero_iff] at h0;rw[h0] at h1;cases h1
   cases over
   ·have hR:Hid ((m,0)=(n,e)):=by
     obtain⟨a,b,c,_⟩:=HI.out;rw[HT.out] at a c;obtain⟨c1,c2⟩:=c rfl;show (m,0)=(n,e);rw[<-HR.out];unfold al;rw[HZ.out,a,<-c1];rcases c2 with c2|c2
     ·exact absurd c2 hz0
     ·simp[c2]
    clear hT hz0;go_wp2_with fail
    go_ret2
    obtain⟨rfl,rfl⟩:=uC hR.out;exact⟨rfl,HBW.out⟩
   ·have hR:Hid ((0,5)=(n,e)):=by
     obtain⟨a,b,_,c⟩:=HI.out;rw[HT.out] at a c;have c1:=c rfl;show (0,5)=(n,e);rw[<-HR.out];unfold al;rw[HZ.out,a,if_neg (by simp),if_neg (by simp),if_neg (by omega)]
    clear hT hz0;go_wp2_with fail
    go_ret2
    obtain⟨rfl,rfl⟩:=uC hR.out;exact⟨rfl,HBW.out⟩
theorem sf (s:ByteArray) (most:Int) (hs:s.size<=9223372036854775807) (hm:most<=9223372036854775807) (hm0:-9223372036854775808<=most) (n e:Int) (hr:al s.data.toList 16 most=(n,e)) (w:World):
 Calls Tryz.prog 117 #[.string s,.int .i64 most] w fun en w'=>en=.returned (.tuple #[.int .i64 n,.int .i64 e])/\Below w.heap.size w w':=by
 have HR:=lH hr;clear hr;go_enter Tryz.func117,Tryz.ntmps117
 go_wp2_with fail
 refine(pj s most hs hm hm0 n e HR.out _).mono ?_;rintro en w1 ⟨rfl,hb⟩;go_wp2_with fail
 go_ret2
 exact⟨rfl,hb⟩
end Go.Proofs.YthjbodpeckebiaaGreatDoor