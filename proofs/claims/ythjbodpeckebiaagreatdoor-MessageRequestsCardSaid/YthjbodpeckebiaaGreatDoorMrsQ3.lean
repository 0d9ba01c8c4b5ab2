/- Texts packed for one claim, 3 of 52: Octet OctetRef Digits. -/
import Derived.Test.YthjbodpeckebiaaGreatDoorMrsQ2
import Derived.Lib.OthersKept
import Derived.Lib.Strings
set_option maxRecDepth 100000
set_option maxHeartbeats 16000000
set_option linter.unusedSimpArgs false
set_option linter.unusedVariables false
-- Octet
namespace Go.Proofs.YthjbodpeckebiaaGreatDoor
open Go.RowKit
/-! The plain answers. -/
def jI:List UInt8:=[33,35,36,37,38,39,42,43,45,46,94,95,96,124,126]
def fE:ByteArray:=⟨#[33,35,36,37,38,39,42,43,45,46,94,95,96,124,126]⟩
def kS (r:Int):Bool:=decide (97<=r/\r<=122)||decide (65<=r/\r<=90)||decide (48<=r/\r<=57)
def aG (r:Int):Bool:=kS r||jI.any fun m=>decide ((m.toNat:Int)=r)
def ax (r:Int):Bool:=decide (r=9)||decide (32<=r/\r≠127)
def ev (r:Int):Bool:=decide (33<=r/\r<=126)
def dY (l:List UInt8):Bool:=!l.isEmpty&&l.all fun b=>aG b.toNat
def ff (l:List UInt8):Bool:=l.all fun b=>ax b.toNat
def eT (l:List UInt8):Bool:=!l.isEmpty&&l.all fun b=>ev b.toNat
theorem nI {r:Int} (h:(97<=r/\r<=122)\/(65<=r/\r<=90)\/(48<=r/\r<=57)):kS r=true:=by
 unfold kS;rw[FU,FU,EO,EO,EO];omega
theorem iU {r:Int} (h:¬((97<=r/\r<=122)\/(65<=r/\r<=90)\/(48<=r/\r<=57))):kS r=false:=by
 unfold kS;rw[Gm,Gm,EP,EP,EP];omega
theorem qW (k:Nat) (h:k<15):∃m,jI[k]? = some m/\∀h':k<fE.size,fE[k]=m:=by
 have hk:k<jI.length:=h;exact⟨jI[k],EM hk,fun h'=>rfl⟩
theorem sC:∀m∈jI,m.toNat<128:=by decide
theorem mC {r:Int} (h:128<=r):aG r=false:=by
 unfold aG;rw[Gm,List.any_eq_false];refine⟨iU (by omega),fun m hm=>?_⟩;have:=sC m hm;rw[EO];omega
theorem mA {r:Int} {m:UInt8} (hm:m∈jI) (h:(m.toNat:Int)=r):aG r=true:=by
 unfold aG;rw[FU,List.any_eq_true];exact .inr ⟨m,hm,by rw[EO];exact h⟩
theorem lX {r:Int} (ha:kS r=false) (h:∀j:Nat,j<15->∀m,jI[j]? = some m->(m.toNat:Int)≠r):aG r=false:=by
 unfold aG;rw[Gm,List.any_eq_false];refine⟨ha,fun m hm=>?_⟩;obtain⟨j,hj⟩:=GB.1 hm;rw[EO];have hjl:j<jI.length:=(Gl.1 hj).1;exact h j hjl m hj
theorem pO (r:Int) (h0:0<=r) (w:World):Calls Tryz.prog 203 #[.int .i32 r] w fun e w'=>e=.returned (.bool (aG r))/\Below w.heap.size w w':=by
 by_cases ha:kS r=true
 ·have hT:aG r=true:=by unfold aG;rw[ha];rfl
  have HT:=lH hT;clear hT
  have h3:(97<=r/\r<=122)\/(65<=r/\r<=90)\/(48<=r/\r<=57):=by
   by_cases h:(97<=r/\r<=122)\/(65<=r/\r<=90)\/(48<=r/\r<=57)
   ·exact h
   ·rw[iU h] at ha;cases ha
  clear ha;rcases h3 with ⟨h1,h2⟩|⟨h1,h2⟩|⟨h1,h2⟩
  all_goals
   go_enter Tryz.func203,Tryz.ntmps203
   go_wp2_with fail
   go_ret;rw[HT.out];exact⟨rfl,EK _ _⟩
 ·rw[Bool.not_eq_true] at ha
  have HA:=lH ha
  have h4:r<48\/(57<r/\r<65)\/(90<r/\r<97)\/122<r:=by
   rcases (by omega:(r<48\/(57<r/\r<65)\/(90<r/\r<97)\/122<r)\/((97<=r/\r<=122)\/(65<=r/\r<=90)\/(48<=r/\r<=57))) with h|h
   ·exact h
   ·rw[nI h] at ha;cases ha
  clear ha;rcases h4 with h1|⟨h1,h2⟩|⟨h1,h2⟩|h1
  all_goals
   go_enter Tryz.func203,Tryz.ntmps203
   go_wp2_with fail
   go_loopw [] (fun wr=>∃pos:Nat,pos<=15/\wr.heap[w.heap.size]? = some (.stringIter fE pos)/\Below w.heap.size w wr/\∀j:Nat,j<pos->∀m,jI[j]? = some m->(m.toNat:Int)≠r) (fun wr=>15 - wr.iterPos w.heap.size)
   case atStart=>
    refine⟨0,by omega,?_,(EK _ _).alloc (nR _) _,fun j hj=>by omega⟩;exact World.iter_heap w fE 0
   case round=>
    obtain⟨pos,hp,hit,hbw,hall⟩:=hrel;have HALL:=lH hall;have HIT:=lH hit;have HBW:=lH hbw;have hsz:w.heap.size<wr.heap.size:=(EV.1 hit).1;clear hall hit hbw;by_cases hlt:pos<15
    ·obtain⟨m,hm,hmg⟩:=qW pos hlt
     have hms:pos<fE.size:=hlt
     have hnx:∀ty,(Instr.next (.pointer (some ⟨w.heap.size,0,none⟩)) true ty).run Tryz.prog wr=.ok (.tuple #[.bool true,.int .i64 pos,.int .i32 m.toNat]) (wr.iterAt w.heap.size fE (pos+1)):=fun ty=>by
      rw[Lib.run_next_ascii_at wr w.heap.size fE pos ty HIT.out hms (by rw[hmg hms];exact sC m (GR hm)),hmg hms]
     have hit2:=Lib.iterAt_heap wr w.heap.size fE pos (pos+1) HIT.out;have hbw2:=GP HBW.out (k:=w.heap.size) (nR _) fE (pos+1);have HIT2:=lH hit2;have HBW2:=lH hbw2;have HM:=lH hm;obtain⟨mi,hmi⟩:∃mi:Int,mi=m.toNat:=⟨_,rfl⟩;rw[<-hmi] at hnx;have HMI:=lH hmi;clear hm hmg hit2 hbw2 hmi;by_cases he:mi=r
     ·have hT:Hid (aG r=true):=mA (GR HM.out) (by rw[<-HMI.out];exact he)
      subst he;go_wp2_with fail
      go_ret;rw[hT.out];exact⟨rfl,HBW2.out⟩
     ·have he2:(mi==r)=false:=by simpa using he
      have HE:=lH he;clear he;go_wp2_with fail
      go_roundw
      case rel=>
       refine⟨pos+1,by omega,HIT2.out,HBW2.out,fun j hj m' hm'=>?_⟩;by_cases hjp:j=pos
       ·subst hjp
        rw[HM.out] at hm';cases hm'
        rw[<-HMI.out];exact HE.out
       ·exact HALL.out j (by omega) m' hm'
      case measure=>
       simp only[World.iterPos,HIT2.out,HIT.out];omega
    ·obtain rfl:pos=15:=by omega
     have hnx:∀ty,(Instr.next (.pointer (some ⟨w.heap.size,0,none⟩)) true ty).run Tryz.prog wr=_:=fun ty=>GA wr w.heap.size fE 15 ty HIT.out (by decide);have hT:Hid (aG r=false):=lX HA.out HALL.out;go_wp2_with fail
     go_ret;rw[hT.out];exact⟨rfl,HBW.out⟩
/-! Where a rune ends. -/
theorem uo (s:ByteArray) (pos:Nat) (h:pos<s.size) (ha:128<=(s[pos]'h).toNat):∀k,k<(Utf8.decode s pos).2->pos+k<s.size/\128<=(s.get! (pos+k)).toNat:=by
 have h0:s.get! pos=s[pos]:=by simp[ByteArray.get!,getElem!_pos,h];rfl
 have hb:128<=(s.get! (pos+0)).toNat:=by rw[Nat.add_zero,h0];exact ha
 intro k hk;by_cases hk0:k=0
 ·subst hk0;exact⟨h,hb⟩
 have hn:¬(s.get! (pos+0)).toNat<128:=by omega
 simp only[Utf8.decode,hn,if_false] at hk;repeat' split at hk
 all_goals simp only[Fq,EO,FA] at *
 all_goals
  rcases (show k=1\/k=2\/k=3 by omega) with rfl|rfl|rfl<;>first|(exfalso;omega)|(refine⟨?_,?_⟩<;>omega)
theorem fZ {s:ByteArray} {q:UInt8->Bool} {pos n:Nat} (h:(s.data.toList.take pos).all q=true) (hn:pos+n<=s.size) (hq:∀k,k<n->q (s.get! (pos+k))=true):(s.data.toList.take (pos+n)).all q=true:=by
 induction n with
 | zero=>exact h
 | succ n ih=>
   have h1:=ih (by omega) (fun k hk=>hq k (by omega))
   have hl:pos+n<s.data.toList.length:=by
    have:=Lib.size_eq s;omega
   rw[<-Gg,E8 hl,List.all_append,h1,Bool.true_and]
   have hg:s.data.toList[pos+n]=s.get! (pos+n):=by
    have hs:pos+n<s.size:=by omega
    rw[show s.get! (pos+n)=s[pos+n] from by simp[ByteArray.get!,getElem!_pos,hs];rfl];rfl
   simp only[List.all_cons,List.all_nil,Bool.and_true,hg];exact hq n (by omega)
theorem cq {s:ByteArray} {q:UInt8->Bool} {pos:Nat} (h:pos<s.size) (hq:q s[pos]=false):s.data.toList.all q=false:=by
 rw[List.all_eq_false];refine⟨s[pos],?_,by rw[hq];exact Bool.false_ne_true⟩
 have hl:pos<s.data.toList.length:=by
  have:=Lib.size_eq s;omega
 have:s.data.toList[pos]=s[pos]:=rfl;rw[<-this];exact FT hl
theorem gK {s:ByteArray} {q:UInt8->Bool} {pos:Nat} (h:(s.data.toList.take pos).all q=true) (hp:¬pos<s.size):s.data.toList.all q=true:=by
 rwa [Fh (by rw[<-Lib.size_eq];omega)] at h
theorem lm {s:ByteArray} {pos:Nat} (h:pos<s.size):s.get! pos=s[pos]:=by simp[ByteArray.get!,getElem!_pos,h];rfl
theorem Dn (s:ByteArray) (hs:s.size<=9223372036854775807) (w:World):Calls Tryz.prog 202 #[.string s,.func (.func 203) #[] #[]] w fun e w'=>e=.returned (.bool (s.data.toList.all fun b=>aG b.toNat))/\Below w.heap.size w w':=by
 go_enter Tryz.func202,Tryz.ntmps202
 go_wp2_with fail
 go_loopw [] (fun wr=>∃pos:Nat,pos<=s.size/\wr.heap[w.heap.size]? = some (.stringIter s pos)/\Below w.heap.size w wr/\(s.data.toList.take pos).all (fun b=>aG b.toNat)=true) (fun wr=>s.size - wr.iterPos w.heap.size)
 case atStart=>exact⟨0,by omega,World.iter_heap w s 0,(EK _ _).alloc (nR _) _,rfl⟩
 case round=>
  obtain⟨pos,hp,hit,hbw,hall⟩:=hrel;have HALL:=lH hall;have HIT:=lH hit;have HBW:=lH hbw;have hsz:w.heap.size<wr.heap.size:=(EV.1 hit).1;clear hall hit hbw;by_cases hlt:pos<s.size
  ·obtain⟨r,hr⟩:∃r:Int,r=((Utf8.decode s pos).1:Int):=⟨_,rfl⟩
   obtain⟨wd,hwd⟩:∃wd,wd=(Utf8.decode s pos).2:=⟨_,rfl⟩
   have hnx:∀ty,(Instr.next (.pointer (some ⟨w.heap.size,0,none⟩)) true ty).run Tryz.prog wr=.ok (.tuple #[.bool true,.int .i64 pos,.int .i32 r]) (wr.iterAt w.heap.size s (pos+wd)):=fun ty=>by
    rw[GK wr w.heap.size s pos ty HIT.out hlt,hr,hwd]
   have hr0:0<=r:=by omega
   have hwd1:1<=wd:=by
    rw[hwd];by_cases ha:(s[pos]'hlt).toNat<128
    ·rw[decode_ascii s pos hlt ha];exact nR _
    ·exact(decode_high s pos hlt (by omega)).2
   have hq:aG r=aG (s[pos]'hlt).toNat/\(aG r=true->pos+wd<=s.size/\∀k,k<wd->aG (s.get! (pos+k)).toNat=true):=by
    by_cases ha:(s[pos]'hlt).toNat<128
    ·rw[decode_ascii s pos hlt ha] at hr hwd
     subst hr hwd;refine⟨rfl,fun h=>⟨by omega,fun k hk=>?_⟩⟩;obtain rfl:k=0:=by omega
     rw[Nat.add_zero,lm hlt];exact h
    ·have h1:=(decode_high s pos hlt (by omega)).1
     rw[mC (r:=r) (by omega),mC (r:=(s[pos]'hlt).toNat) (by omega)];refine⟨rfl,fun h=>?_⟩;cases h
   have HQ:=lH hq;have hit2:=Lib.iterAt_heap wr w.heap.size s pos (pos+wd) HIT.out;have hbw2:=GP HBW.out (k:=w.heap.size) (nR _) s (pos+wd);have HIT2:=lH hit2;have HBW2:=lH hbw2;clear hr hwd hq hit2 hbw2;go_wp2_with fail
   refine(pO _ (by omega) _).mono ?_;rintro e w1 ⟨rfl,hb1⟩;have hbw3:=HBW2.out.trans (hb1.mono (by rw[Lib.iterAt_size];omega));have hit3:w1.heap[w.heap.size]? = some (.stringIter s (pos+wd)):=(hb1.block w.heap.size (by rw[Lib.iterAt_size];omega)).trans HIT2.out;have HIT3:=lH hit3;have HBW3:=lH hbw3;clear hit3 hbw3 hb1;obtain⟨v,hv⟩:∃v,v=aG r:=⟨_,rfl⟩;rw[<-hv];have HV:=lH hv;clear hv;cases v
   ·go_wp2_with fail
    go_ret;rw[cq hlt (q:=fun b=>aG b.toNat) (by rw[HV.out];exact HQ.out.1.symm)];exact⟨rfl,HBW3.out⟩
   ·go_wp2_with fail
    go_roundw
    case rel=>
     have h2:=HQ.out.2 HV.out.symm;exact⟨pos+wd,h2.1,HIT3.out,HBW3.out,fZ HALL.out h2.1 h2.2⟩
    case measure=>
     simp only[World.iterPos,HIT3.out,HIT.out];omega
  ·have hnx:∀ty,(Instr.next (.pointer (some ⟨w.heap.size,0,none⟩)) true ty).run Tryz.prog wr=_:=fun ty=>GA wr w.heap.size s pos ty HIT.out hlt
   have hT:Hid ((s.data.toList.all fun b=>aG b.toNat)=true):=gK HALL.out hlt;go_wp2_with fail
   go_ret;rw[hT.out];exact⟨rfl,HBW.out⟩
theorem vu (r:Int) (w:World):Calls Tryz.prog 207 #[.int .i32 r] w fun e w'=>e=.returned (.bool (ax r))/\Below w.heap.size w w':=by
 have hv:∀b,b=ax r->Hid (b=ax r):=fun _ h=>h;rcases (by omega:r=9\/(r≠9/\r<32)\/(32<=r/\r=127)\/(32<=r/\r≠127)) with h|⟨h1,h2⟩|⟨h1,h2⟩|⟨h1,h2⟩
 ·have HV:=hv true (by unfold ax;rw[h];rfl)
  subst h;go_enter Tryz.func207,Tryz.ntmps207
  go_wp2_with fail
  go_ret;rw[<-HV.out];exact⟨rfl,EK _ _⟩
 ·have HV:=hv false (by unfold ax;symm;rw[Gm,EP,EP];omega)
  have e1:(r==9)=false:=by simpa using h1
  clear h1 hv;go_enter Tryz.func207,Tryz.ntmps207
  go_wp2_with fail
  go_ret;rw[<-HV.out];exact⟨rfl,EK _ _⟩
 ·have HV:=hv false (by unfold ax;symm;rw[Gm,EP,EP];omega)
  subst h2;go_enter Tryz.func207,Tryz.ntmps207
  go_wp2_with fail
  go_ret;rw[<-HV.out];exact⟨rfl,EK _ _⟩
 ·have HV:=hv true (by unfold ax;symm;rw[FU,EO,EO];exact .inr ⟨h1,h2⟩)
  by_cases h9:r=9
  ·omega
  have e1:(r==9)=false:=by simpa using h9
  have e2:(r != 127)=true:=by simpa using h2
  clear h9 hv h2;go_enter Tryz.func207,Tryz.ntmps207
  go_wp2_with fail
  go_ret;rw[<-HV.out];exact⟨rfl,EK _ _⟩
theorem iT {r:Int} (h:128<=r):ax r=true:=by unfold ax;rw[FU,EO,EO];omega
theorem Cc (s:ByteArray) (hs:s.size<=9223372036854775807) (w:World):Calls Tryz.prog 202 #[.string s,.func (.func 207) #[] #[]] w fun e w'=>e=.returned (.bool (s.data.toList.all fun b=>ax b.toNat))/\Below w.heap.size w w':=by
 go_enter Tryz.func202,Tryz.ntmps202
 go_wp2_with fail
 go_loopw [] (fun wr=>∃pos:Nat,pos<=s.size/\wr.heap[w.heap.size]? = some (.stringIter s pos)/\Below w.heap.size w wr/\(s.data.toList.take pos).all (fun b=>ax b.toNat)=true) (fun wr=>s.size - wr.iterPos w.heap.size)
 case atStart=>exact⟨0,by omega,World.iter_heap w s 0,(EK _ _).alloc (nR _) _,rfl⟩
 case round=>
  obtain⟨pos,hp,hit,hbw,hall⟩:=hrel;have HALL:=lH hall;have HIT:=lH hit;have HBW:=lH hbw;have hsz:w.heap.size<wr.heap.size:=(EV.1 hit).1;clear hall hit hbw;by_cases hlt:pos<s.size
  ·obtain⟨r,hr⟩:∃r:Int,r=((Utf8.decode s pos).1:Int):=⟨_,rfl⟩
   obtain⟨wd,hwd⟩:∃wd,wd=(Utf8.decode s pos).2:=⟨_,rfl⟩
   have hnx:∀ty,(Instr.next (.pointer (some ⟨w.heap.size,0,none⟩)) true ty).run Tryz.prog wr=.ok (.tuple #[.bool true,.int .i64 pos,.int .i32 r]) (wr.iterAt w.heap.size s (pos+wd)):=fun ty=>by
    rw[GK wr w.heap.size s pos ty HIT.out hlt,hr,hwd]
   have hr0:0<=r:=by omega
   have hwd1:1<=wd:=by
    rw[hwd];by_cases ha:(s[pos]'hlt).toNat<128
    ·rw[decode_ascii s pos hlt ha];exact nR _
    ·exact(decode_high s pos hlt (by omega)).2
   have hq:ax r=ax (s[pos]'hlt).toNat/\(ax r=true->pos+wd<=s.size/\∀k,k<wd->ax (s.get! (pos+k)).toNat=true):=by
    by_cases ha:(s[pos]'hlt).toNat<128
    ·rw[decode_ascii s pos hlt ha] at hr hwd
     subst hr hwd;refine⟨rfl,fun h=>⟨by omega,fun k hk=>?_⟩⟩;obtain rfl:k=0:=by omega
     rw[Nat.add_zero,lm hlt];exact h
    ·have h1:=(decode_high s pos hlt (by omega)).1
     rw[iT (r:=r) (by omega),iT (r:=(s[pos]'hlt).toNat) (by omega)];refine⟨rfl,fun h=>?_⟩;have hc:=uo s pos hlt (by omega);rw[<-hwd] at hc;refine⟨?_,fun k hk=>iT (by have:=(hc k hk).2;omega)⟩;have:=(hc (wd - 1) (by omega)).1;omega
   have HQ:=lH hq;have hit2:=Lib.iterAt_heap wr w.heap.size s pos (pos+wd) HIT.out;have hbw2:=GP HBW.out (k:=w.heap.size) (nR _) s (pos+wd);have HIT2:=lH hit2;have HBW2:=lH hbw2;clear hr hwd hq hit2 hbw2;go_wp2_with fail
   refine(vu _ _).mono ?_;rintro e w1 ⟨rfl,hb1⟩;have hbw3:=HBW2.out.trans (hb1.mono (by rw[Lib.iterAt_size];omega));have hit3:w1.heap[w.heap.size]? = some (.stringIter s (pos+wd)):=(hb1.block w.heap.size (by rw[Lib.iterAt_size];omega)).trans HIT2.out;have HIT3:=lH hit3;have HBW3:=lH hbw3;clear hit3 hbw3 hb1;obtain⟨v,hv⟩:∃v,v=ax r:=⟨_,rfl⟩;rw[<-hv];have HV:=lH hv;clear hv;cases v
   ·go_wp2_with fail
    go_ret;rw[cq hlt (q:=fun b=>ax b.toNat) (by rw[HV.out];exact HQ.out.1.symm)];exact⟨rfl,HBW3.out⟩
   ·go_wp2_with fail
    go_roundw
    case rel=>
     have h2:=HQ.out.2 HV.out.symm;exact⟨pos+wd,h2.1,HIT3.out,HBW3.out,fZ HALL.out h2.1 h2.2⟩
    case measure=>
     simp only[World.iterPos,HIT3.out,HIT.out];omega
  ·have hnx:∀ty,(Instr.next (.pointer (some ⟨w.heap.size,0,none⟩)) true ty).run Tryz.prog wr=_:=fun ty=>GA wr w.heap.size s pos ty HIT.out hlt
   have hT:Hid ((s.data.toList.all fun b=>ax b.toNat)=true):=gK HALL.out hlt;go_wp2_with fail
   go_ret;rw[hT.out];exact⟨rfl,HBW.out⟩
theorem r9 (r:Int) (w:World):Calls Tryz.prog 204 #[.int .i32 r] w fun e w'=>e=.returned (.bool (ev r))/\Below w.heap.size w w':=by
 have hv:∀b,b=ev r->Hid (b=ev r):=fun _ h=>h;rcases (by omega:r<=32\/(32<r/\r<127)\/127<=r) with h1|⟨h1,h2⟩|h1
 ·have HV:=hv false (by unfold ev;symm;rw[EP];omega)
  go_enter Tryz.func204,Tryz.ntmps204
  go_wp2_with fail
  go_ret;rw[<-HV.out];exact⟨rfl,EK _ _⟩
 ·have HV:=hv true (by unfold ev;symm;rw[EO];omega)
  go_enter Tryz.func204,Tryz.ntmps204
  go_wp2_with fail
  go_ret;rw[<-HV.out];exact⟨rfl,EK _ _⟩
 ·have HV:=hv false (by unfold ev;symm;rw[EP];omega)
  have hd:decide (r<127)=false:=by rw[EP];omega
  go_enter Tryz.func204,Tryz.ntmps204
  go_wp2_with fail
  go_ret;rw[<-HV.out];exact⟨rfl,EK _ _⟩
theorem qo {r:Int} (h:128<=r):ev r=false:=by unfold ev;rw[EP];omega
theorem BZ (s:ByteArray) (hs:s.size<=9223372036854775807) (w:World):Calls Tryz.prog 202 #[.string s,.func (.func 204) #[] #[]] w fun e w'=>e=.returned (.bool (s.data.toList.all fun b=>ev b.toNat))/\Below w.heap.size w w':=by
 go_enter Tryz.func202,Tryz.ntmps202
 go_wp2_with fail
 go_loopw [] (fun wr=>∃pos:Nat,pos<=s.size/\wr.heap[w.heap.size]? = some (.stringIter s pos)/\Below w.heap.size w wr/\(s.data.toList.take pos).all (fun b=>ev b.toNat)=true) (fun wr=>s.size - wr.iterPos w.heap.size)
 case atStart=>exact⟨0,by omega,World.iter_heap w s 0,(EK _ _).alloc (nR _) _,rfl⟩
 case round=>
  obtain⟨pos,hp,hit,hbw,hall⟩:=hrel;have HALL:=lH hall;have HIT:=lH hit;have HBW:=lH hbw;have hsz:w.heap.size<wr.heap.size:=(EV.1 hit).1;clear hall hit hbw;by_cases hlt:pos<s.size
  ·obtain⟨r,hr⟩:∃r:Int,r=((Utf8.decode s pos).1:Int):=⟨_,rfl⟩
   obtain⟨wd,hwd⟩:∃wd,wd=(Utf8.decode s pos).2:=⟨_,rfl⟩
   have hnx:∀ty,(Instr.next (.pointer (some ⟨w.heap.size,0,none⟩)) true ty).run Tryz.prog wr=.ok (.tuple #[.bool true,.int .i64 pos,.int .i32 r]) (wr.iterAt w.heap.size s (pos+wd)):=fun ty=>by
    rw[GK wr w.heap.size s pos ty HIT.out hlt,hr,hwd]
   have hr0:0<=r:=by omega
   have hwd1:1<=wd:=by
    rw[hwd];by_cases ha:(s[pos]'hlt).toNat<128
    ·rw[decode_ascii s pos hlt ha];exact nR _
    ·exact(decode_high s pos hlt (by omega)).2
   have hq:ev r=ev (s[pos]'hlt).toNat/\(ev r=true->pos+wd<=s.size/\∀k,k<wd->ev (s.get! (pos+k)).toNat=true):=by
    by_cases ha:(s[pos]'hlt).toNat<128
    ·rw[decode_ascii s pos hlt ha] at hr hwd
     subst hr hwd;refine⟨rfl,fun h=>⟨by omega,fun k hk=>?_⟩⟩;obtain rfl:k=0:=by omega
     rw[Nat.add_zero,lm hlt];exact h
    ·have h1:=(decode_high s pos hlt (by omega)).1
     rw[qo (r:=r) (by omega),qo (r:=(s[pos]'hlt).toNat) (by omega)];refine⟨rfl,fun h=>?_⟩;cases h
   have HQ:=lH hq;have hit2:=Lib.iterAt_heap wr w.heap.size s pos (pos+wd) HIT.out;have hbw2:=GP HBW.out (k:=w.heap.size) (nR _) s (pos+wd);have HIT2:=lH hit2;have HBW2:=lH hbw2;clear hr hwd hq hit2 hbw2;go_wp2_with fail
   refine(r9 _ _).mono ?_;rintro e w1 ⟨rfl,hb1⟩;have hbw3:=HBW2.out.trans (hb1.mono (by rw[Lib.iterAt_size];omega));have hit3:w1.heap[w.heap.size]? = some (.stringIter s (pos+wd)):=(hb1.block w.heap.size (by rw[Lib.iterAt_size];omega)).trans HIT2.out;have HIT3:=lH hit3;have HBW3:=lH hbw3;clear hit3 hbw3 hb1;obtain⟨v,hv⟩:∃v,v=ev r:=⟨_,rfl⟩;rw[<-hv];have HV:=lH hv;clear hv;cases v
   ·go_wp2_with fail
    go_ret;rw[cq hlt (q:=fun b=>ev b.toNat) (by rw[HV.out];exact HQ.out.1.symm)];exact⟨rfl,HBW3.out⟩
   ·go_wp2_with fail
    go_roundw
    case rel=>
     have h2:=HQ.out.2 HV.out.symm;exact⟨pos+wd,h2.1,HIT3.out,HBW3.out,fZ HALL.out h2.1 h2.2⟩
    case measure=>
     simp only[World.iterPos,HIT3.out,HIT.out];omega
  ·have hnx:∀ty,(Instr.next (.pointer (some ⟨w.heap.size,0,none⟩)) true ty).run Tryz.prog wr=_:=fun ty=>GA wr w.heap.size s pos ty HIT.out hlt
   have hT:Hid ((s.data.toList.all fun b=>ev b.toNat)=true):=gK HALL.out hlt;go_wp2_with fail
   go_ret;rw[hT.out];exact⟨rfl,HBW.out⟩
theorem ah (s:ByteArray):s.toList.isEmpty=s.data.toList.isEmpty:=by rw[Gj]
theorem gZ (s:ByteArray) (hs:s.size<=9223372036854775807) (w:World):Calls Tryz.prog 165 #[.string s] w fun e w'=>e=.returned (.bool (dY s.data.toList))/\Below w.heap.size w w':=by
 have hv:∀b,b=dY s.data.toList->Hid (b=dY s.data.toList):=fun _ h=>h;cases h:s.data.toList.isEmpty
 ·have HV:=hv (s.data.toList.all fun b=>aG b.toNat) (by unfold dY;rw[h];rfl)
  have h2:s.toList.isEmpty=false:=by rw[ah];exact h
  clear h hv;go_enter Tryz.func165,Tryz.ntmps165
  go_wp2_with fail
  refine(Dn s hs _).mono ?_;rintro e w1 ⟨rfl,hb1⟩;rw[HV.out];go_wp2_with fail
  go_ret;exact⟨rfl,hb1⟩
 ·have HV:=hv false (by unfold dY;rw[h];rfl)
  have h2:s.toList.isEmpty=true:=by rw[ah];exact h
  clear h hv;go_enter Tryz.func165,Tryz.ntmps165
  go_wp2_with fail
  go_ret;rw[<-HV.out];exact⟨rfl,EK _ _⟩
theorem mG (s:ByteArray) (hs:s.size<=9223372036854775807) (w:World):Calls Tryz.prog 166 #[.string s] w fun e w'=>e=.returned (.bool (eT s.data.toList))/\Below w.heap.size w w':=by
 have hv:∀b,b=eT s.data.toList->Hid (b=eT s.data.toList):=fun _ h=>h;cases h:s.data.toList.isEmpty
 ·have HV:=hv (s.data.toList.all fun b=>ev b.toNat) (by unfold eT;rw[h];rfl)
  have h2:s.toList.isEmpty=false:=by rw[ah];exact h
  clear h hv;go_enter Tryz.func166,Tryz.ntmps166
  go_wp2_with fail
  refine(BZ s hs _).mono ?_;rintro e w1 ⟨rfl,hb1⟩;rw[HV.out];go_wp2_with fail
  go_ret;exact⟨rfl,hb1⟩
 ·have HV:=hv false (by unfold eT;rw[h];rfl)
  have h2:s.toList.isEmpty=true:=by rw[ah];exact h
  clear h hv;go_enter Tryz.func166,Tryz.ntmps166
  go_wp2_with fail
  go_ret;rw[<-HV.out];exact⟨rfl,EK _ _⟩
theorem gR (s:ByteArray) (hs:s.size<=9223372036854775807) (w:World):Calls Tryz.prog 169 #[.string s] w fun e w'=>e=.returned (.bool (ff s.data.toList))/\Below w.heap.size w w':=by
 obtain⟨b,hb⟩:∃b,b=ff s.data.toList:=⟨_,rfl⟩;have HB:=lH hb;clear hb;go_enter Tryz.func169,Tryz.ntmps169
 go_wp2_with fail
 refine(Cc s hs _).mono ?_;rintro e w1 ⟨rfl,hb1⟩;rw[show (s.data.toList.all fun b=>ax b.toNat)=b from HB.out.symm];go_wp2_with fail
 go_ret;rw[<-HB.out];exact⟨rfl,hb1⟩
end Go.Proofs.YthjbodpeckebiaaGreatDoor
-- OctetRef
namespace Go.Proofs.YthjbodpeckebiaaGreatDoor
open Go.RowKit
theorem uA {r:Int} (ha:kS r=true):aG r=true:=by unfold aG;rw[ha];rfl
theorem oO (r:Int) (h0:0<=r) (h255:r<=255) (w:World):Calls Tryz.prog 155 #[.int .u8 r] w fun e w'=>e=.returned (.bool (aG r))/\w=w':=by
 by_cases ha:kS r=true
 ·have HT:=lH (uA ha)
  have h3:(97<=r/\r<=122)\/(65<=r/\r<=90)\/(48<=r/\r<=57):=by
   by_cases h:(97<=r/\r<=122)\/(65<=r/\r<=90)\/(48<=r/\r<=57)
   ·exact h
   ·rw[iU h] at ha;cases ha
  clear ha;rcases h3 with ⟨h1,h2⟩|⟨h1,h2⟩|⟨h1,h2⟩
  all_goals
   go_enter Tryz.func155,Tryz.ntmps155
   go_wp2_with fail
   go_ret;rw[HT.out];exact⟨rfl,rfl⟩
 ·rw[Bool.not_eq_true] at ha
  have HA:=lH ha
  have h4:r<48\/(57<r/\r<65)\/(90<r/\r<97)\/122<r:=by
   rcases (by omega:(r<48\/(57<r/\r<65)\/(90<r/\r<97)\/122<r)\/((97<=r/\r<=122)\/(65<=r/\r<=90)\/(48<=r/\r<=57))) with h|h
   ·exact h
   ·rw[nI h] at ha;cases ha
  clear ha;obtain⟨M,hM⟩:∃M:ByteArray,M=fE:=⟨_,rfl⟩;rcases h4 with h1|⟨h1,h2⟩|⟨h1,h2⟩|h1
  all_goals
   go_enter Tryz.func155,Tryz.ntmps155
   go_wp2_with fail
   go_loop [4] (fun i=>∃k:Nat,k<=15/\i=.int .i64 k/\∀j:Nat,j<k->∀m,jI[j]? = some m->(m.toNat:Int)≠r) (fun i=>15 - (intOf i).toNat)
   case atStart=>exact⟨0,by omega,rfl,fun j hj=>by omega⟩
   case round=>
    obtain⟨k,hk,rfl,hall⟩:=hrel;have HALL:=lH hall;clear hall;by_cases hlt:k<15
    ·obtain⟨m,hm,hmg⟩:=qW k hlt
     have hms:k<fE.size:=hlt
     have hix:∀W:World,(Instr.index 9 (.string ⟨#[33,35,36,37,38,39,42,43,45,46,94,95,96,124,126]⟩) (.int .i64 k)).run Tryz.prog W=.ok (.int .u8 m.toNat) W:=fun W=>by
      have h1:=run_index_string (P:=Tryz.prog) (w:=W) 9 fE .i64 (k:Int) Tryz.underlying9;have h2:0<=(k:Int)/\(k:Int)<fE.size:=by omega
      rw[dif_pos h2] at h1;rw[show (Instr.index 9 (.string ⟨#[33,35,36,37,38,39,42,43,45,46,94,95,96,124,126]⟩) (.int .i64 k))=(Instr.index 9 (.string fE) (.int .i64 k)) from rfl,h1,<-hmg hms];rfl
     obtain⟨mi,hmi⟩:∃mi:Int,mi=m.toNat:=⟨_,rfl⟩;rw[<-hmi] at hix;have HM:=lH hm;have HMI:=lH hmi;clear hm hmg hmi;by_cases he:mi=r
     ·have hT:Hid (aG r=true):=mA (GR HM.out) (by rw[<-HMI.out];exact he)
      subst he;go_wp2_with fail
      go_ret;rw[hT.out];exact⟨rfl,rfl⟩
     ·have he2:(mi==r)=false:=by simpa using he
      have HE:=lH he;clear he;go_wp2_with fail
      go_round
      case rel=>
       refine⟨k+1,by omega,by go_num,fun j hj m' hm'=>?_⟩;by_cases hjp:j=k
       ·subst hjp
        rw[HM.out] at hm';cases hm'
        rw[<-HMI.out];exact HE.out
       ·exact HALL.out j (by omega) m' hm'
      case measure=>simp[intOf];omega
    ·obtain rfl:k=15:=by omega
     have hT:Hid (aG r=false):=lX HA.out HALL.out;go_wp2_with fail
     go_ret;rw[hT.out];exact⟨rfl,rfl⟩
theorem eo {s:ByteArray} {q:UInt8->Bool} {k:Nat} (h:(s.data.toList.take k).all q=true) (hk:k<s.size) (hq:q s[k]=true):(s.data.toList.take (k+1)).all q=true:=
 fZ (n:=1) h (by omega) (fun j hj=>by
  obtain rfl:j=0:=by omega
  rw[Nat.add_zero,lm hk];exact hq)
theorem ke (s:ByteArray) (hs:s.size<=9223372036854775807) (w:World):Calls Tryz.prog 120 #[.string s] w fun e w'=>e=.returned (.bool (dY s.data.toList))/\w=w':=by
 go_enter Tryz.func120,Tryz.ntmps120
 go_wp2_with fail
 go_loop [3] (fun i=>∃k:Nat,k<=s.size/\i=.int .i64 k/\(s.data.toList.take k).all (fun b=>aG b.toNat)=true) (fun i=>s.size - (intOf i).toNat)
 case atStart=>exact⟨0,by omega,rfl,rfl⟩
 case round=>
  obtain⟨k,hk,rfl,hall⟩:=hrel;have HALL:=lH hall;clear hall;by_cases hlt:k<s.size
  ·obtain⟨c,hc⟩:∃c:Int,c=(s[k]'hlt).toNat:=⟨_,rfl⟩
   have hix:∀W:World,(Instr.index 9 (.string s) (.int .i64 k)).run Tryz.prog W=.ok (.int .u8 c) W:=fun W=>by
    have h1:=run_index_string (P:=Tryz.prog) (w:=W) 9 s .i64 (k:Int) Tryz.underlying9;have h2:0<=(k:Int)/\(k:Int)<s.size:=by omega
    rw[dif_pos h2] at h1;rw[h1,hc];rfl
   have hc0:0<=c:=by omega
   have hc1:c<=255:=by rw[hc];have:=(s[k]'hlt).toNat_lt;omega
   have HC:=lH hc;clear hc;obtain⟨v,hv⟩:∃v,v=aG c:=⟨_,rfl⟩;have HV:=lH hv;clear hv;go_wp2_with fail
   refine(oO c hc0 hc1 _).mono ?_;rintro e w1 ⟨rfl,rfl⟩;rw[<-HV.out];cases v
   ·go_wp2_with fail
    go_ret;have hR:dY s.data.toList=false:=by unfold dY;rw[cq hlt (q:=fun b=>aG b.toNat) (by rw[HV.out,HC.out])];simp
    rw[hR];exact⟨rfl,rfl⟩
   ·go_wp2_with fail
    go_round
    case rel=>exact⟨k+1,by omega,by go_num,eo HALL.out hlt (by rw[HV.out,HC.out])⟩
    case measure=>simp[intOf];omega
  ·have hT:Hid ((s.data.toList.all fun b=>aG b.toNat)=true):=gK HALL.out hlt
   obtain rfl:k=s.size:=by omega
   cases h:s.data.toList.isEmpty
   ·have hz:(0:Int)<s.size:=by
     rcases Nat.eq_zero_or_pos s.size with h0|h0
     ·rw[Lib.size_eq,GF] at h0;rw[h0] at h;cases h
     ·omega
    have hzN:decide (0<s.size)=true:=by rw[EO];omega
    have hR:Hid (dY s.data.toList=true):=by show dY _=true;unfold dY;rw[h,hT.out];rfl
    clear h;go_wp2_with fail
    go_ret;rw[hR.out];exact⟨rfl,rfl⟩
   ·have hz:s.size=0:=by rw[Lib.size_eq,GF];exact Gy.1 h
    have hz2:¬(0:Int)<s.size:=by omega
    have hR:Hid (dY s.data.toList=false):=by show dY _=false;unfold dY;rw[h];rfl
    have hd:decide ((0:Int)<s.size)=false:=dF hz2;have hzN:decide (0<s.size)=false:=by rw[EP];omega
    clear h hz hz2;go_wp2_with fail
    go_ret;rw[hR.out];exact⟨rfl,rfl⟩
theorem fM (s:ByteArray) (hs:s.size<=9223372036854775807) (w:World):Calls Tryz.prog 125 #[.string s] w fun e w'=>e=.returned (.bool (ff s.data.toList))/\w=w':=by
 go_enter Tryz.func125,Tryz.ntmps125
 go_wp2_with fail
 go_loop [3] (fun i=>∃k:Nat,k<=s.size/\i=.int .i64 k/\(s.data.toList.take k).all (fun b=>ax b.toNat)=true) (fun i=>s.size - (intOf i).toNat)
 case atStart=>exact⟨0,by omega,rfl,rfl⟩
 case round=>
  obtain⟨k,hk,rfl,hall⟩:=hrel;have HALL:=lH hall;clear hall;by_cases hlt:k<s.size
  ·obtain⟨c,hc⟩:∃c:Int,c=(s[k]'hlt).toNat:=⟨_,rfl⟩
   have hix:∀W:World,(Instr.index 9 (.string s) (.int .i64 k)).run Tryz.prog W=.ok (.int .u8 c) W:=fun W=>by
    have h1:=run_index_string (P:=Tryz.prog) (w:=W) 9 s .i64 (k:Int) Tryz.underlying9;have h2:0<=(k:Int)/\(k:Int)<s.size:=by omega
    rw[dif_pos h2] at h1;rw[h1,hc];rfl
   have hc0:0<=c:=by omega
   have hc1:c<=255:=by rw[hc];have:=(s[k]'hlt).toNat_lt;omega
   have HC:=lH hc;clear hc;rcases (by omega:c=9\/(c≠9/\c<32)\/c=127\/(32<=c/\c<127)\/127<c) with h|h|h|h|h
   ·have hV:ax c=true:=by unfold ax;simp only[FU,EO];omega
    have HV:=lH hV;clear hV;subst h;go_wp2_with fail
    go_round
    case rel=>exact⟨k+1,by omega,by go_num,eo HALL.out hlt (by rw[<-HC.out,HV.out])⟩
    case measure=>simp[intOf];omega
   ·have hV:ax c=false:=by unfold ax;simp only[Gm,EP];omega
    have HV:=lH hV;clear hV;have e9:(c != 9)=true:=by simp;omega
    have e127:(c==127)=false:=by simp;omega
    go_wp2_with fail
    go_ret;have hR:ff s.data.toList=false:=by unfold ff;rw[cq hlt (q:=fun b=>ax b.toNat) (by rw[<-HC.out,HV.out])]
    rw[hR];exact⟨rfl,rfl⟩
   ·have hV:ax c=false:=by unfold ax;simp only[Gm,EP];omega
    have HV:=lH hV;clear hV;subst h;go_wp2_with fail
    go_ret;have hR:ff s.data.toList=false:=by unfold ff;rw[cq hlt (q:=fun b=>ax b.toNat) (by rw[<-HC.out,HV.out])]
    rw[hR];exact⟨rfl,rfl⟩
   ·have hV:ax c=true:=by unfold ax;simp only[FU,EO];omega
    have HV:=lH hV;clear hV;have e9:(c != 9)=true:=by simp;omega
    have e127:(c==127)=false:=by simp;omega
    go_wp2_with fail
    go_round
    case rel=>exact⟨k+1,by omega,by go_num,eo HALL.out hlt (by rw[<-HC.out,HV.out])⟩
    case measure=>simp[intOf];omega
   ·have hV:ax c=true:=by unfold ax;simp only[FU,EO];omega
    have HV:=lH hV;clear hV;have e9:(c != 9)=true:=by simp;omega
    have e127:(c==127)=false:=by simp;omega
    go_wp2_with fail
    go_round
    case rel=>exact⟨k+1,by omega,by go_num,eo HALL.out hlt (by rw[<-HC.out,HV.out])⟩
    case measure=>simp[intOf];omega
  ·have hT:Hid ((s.data.toList.all fun b=>ax b.toNat)=true):=gK HALL.out hlt
   obtain rfl:k=s.size:=by omega
   have hR:Hid (ff s.data.toList=true):=hT;go_wp2_with fail
   go_ret;rw[hR.out];exact⟨rfl,rfl⟩
theorem sb (s:ByteArray) (hs:s.size<=9223372036854775807) (w:World):Calls Tryz.prog 121 #[.string s] w fun e w'=>e=.returned (.bool (eT s.data.toList))/\w=w':=by
 go_enter Tryz.func121,Tryz.ntmps121
 go_wp2_with fail
 go_loop [3] (fun i=>∃k:Nat,k<=s.size/\i=.int .i64 k/\(s.data.toList.take k).all (fun b=>ev b.toNat)=true) (fun i=>s.size - (intOf i).toNat)
 case atStart=>exact⟨0,by omega,rfl,rfl⟩
 case round=>
  obtain⟨k,hk,rfl,hall⟩:=hrel;have HALL:=lH hall;clear hall;by_cases hlt:k<s.size
  ·obtain⟨c,hc⟩:∃c:Int,c=(s[k]'hlt).toNat:=⟨_,rfl⟩
   have hix:∀W:World,(Instr.index 9 (.string s) (.int .i64 k)).run Tryz.prog W=.ok (.int .u8 c) W:=fun W=>by
    have h1:=run_index_string (P:=Tryz.prog) (w:=W) 9 s .i64 (k:Int) Tryz.underlying9;have h2:0<=(k:Int)/\(k:Int)<s.size:=by omega
    rw[dif_pos h2] at h1;rw[h1,hc];rfl
   have hc0:0<=c:=by omega
   have hc1:c<=255:=by rw[hc];have:=(s[k]'hlt).toNat_lt;omega
   have HC:=lH hc;clear hc;rcases (by omega:c<33\/(33<=c/\c<=126)\/126<c) with h|h|h
   ·have hV:ev c=false:=by unfold ev;simp only[EP];omega
    have HV:=lH hV;clear hV;go_wp2_with fail
    go_ret;have hR:eT s.data.toList=false:=by unfold eT;rw[cq hlt (q:=fun b=>ev b.toNat) (by rw[<-HC.out,HV.out])];simp
    rw[hR];exact⟨rfl,rfl⟩
   ·have hV:ev c=true:=by unfold ev;simp only[EO];omega
    have HV:=lH hV;clear hV;go_wp2_with fail
    go_round
    case rel=>exact⟨k+1,by omega,by go_num,eo HALL.out hlt (by rw[<-HC.out,HV.out])⟩
    case measure=>simp[intOf];omega
   ·have hV:ev c=false:=by unfold ev;simp only[EP];omega
    have HV:=lH hV;clear hV;go_wp2_with fail
    go_ret;have hR:eT s.data.toList=false:=by unfold eT;rw[cq hlt (q:=fun b=>ev b.toNat) (by rw[<-HC.out,HV.out])];simp
    rw[hR];exact⟨rfl,rfl⟩
  ·have hT:Hid ((s.data.toList.all fun b=>ev b.toNat)=true):=gK HALL.out hlt
   obtain rfl:k=s.size:=by omega
   cases h:s.data.toList.isEmpty
   ·have hz:(0:Int)<s.size:=by
     rcases Nat.eq_zero_or_pos s.size with h0|h0
     ·rw[Lib.size_eq,GF] at h0;rw[h0] at h;cases h
     ·omega
    have hzN:decide (0<s.size)=true:=by rw[EO];omega
    have hR:Hid (eT s.data.toList=true):=by show eT _=true;unfold eT;rw[h,hT.out];rfl
    clear h;go_wp2_with fail
    go_ret;rw[hR.out];exact⟨rfl,rfl⟩
   ·have hz:s.size=0:=by rw[Lib.size_eq,GF];exact Gy.1 h
    have hz2:¬(0:Int)<s.size:=by omega
    have hR:Hid (eT s.data.toList=false):=by show eT _=false;unfold eT;rw[h];rfl
    have hd:decide ((0:Int)<s.size)=false:=dF hz2;have hzN:decide (0<s.size)=false:=by rw[EP];omega
    clear h hz hz2;go_wp2_with fail
    go_ret;rw[hR.out];exact⟨rfl,rfl⟩
end Go.Proofs.YthjbodpeckebiaaGreatDoor
-- Digits
namespace Go.Proofs.YthjbodpeckebiaaGreatDoor
open Go.RowKit
def az (r:Int):Int:=if 48<=r/\r<=57 then r - 48 else if 97<=r/\r<=102 then r - 87 else if 65<=r/\r<=70 then r - 55 else -1
theorem j9 (r:Int):-1<=az r/\az r<=15:=by
 unfold az;repeat' split
 all_goals omega
theorem fw {r:Int} (h:128<=r):az r=-1:=by
 unfold az;rw[if_neg (by omega),if_neg (by omega),if_neg (by omega)]
def aZ (base:Int) (l:List UInt8):Int:=l.foldl (fun n b=>n*base+az b.toNat) 0
def dI (base:Int) (b:UInt8):Bool:=decide (0<=az b.toNat/\az b.toNat<base)
def am (l:List UInt8) (base most:Int):Int×Int:=
 if l.isEmpty then (0,2) else if !(l.all (dI base)) then (0,3) else if aZ base l<=most then (aZ base l,0) else (0,5)
theorem js (base:Int) (l:List UInt8) (b:UInt8):aZ base (l++[b])=aZ base l*base+az b.toNat:=by
 unfold aZ;rw[List.foldl_append];rfl
theorem pH (r:Int) (h0:0<=r) (h1:r<=1114111) (w:World):Calls Tryz.prog 198 #[.int .i32 r] w fun e w'=>e=.returned (.int .i64 (az r))/\w=w':=by
 rcases (by omega:r<48\/(48<=r/\r<=57)\/(57<r/\r<65)\/(65<=r/\r<=70)\/(70<r/\r<97)\/(97<=r/\r<=102)\/102<r) with h|⟨h,h'⟩|⟨h,h'⟩|⟨h,h'⟩|⟨h,h'⟩|⟨h,h'⟩|h
 ·have HV:Hid (az r=-1):=by show az r=-1;unfold az;repeat' split;all_goals omega
  go_enter Tryz.func198,Tryz.ntmps198
  go_wp2_with fail
  go_ret;rw[HV.out];exact⟨rfl,rfl⟩
 ·have HV:Hid (az r=r - 48):=by show az r=r - 48;unfold az;repeat' split;all_goals omega
  go_enter Tryz.func198,Tryz.ntmps198
  go_wp2_with fail
  go_ret;rw[HV.out];exact⟨rfl,rfl⟩
 ·have HV:Hid (az r=-1):=by show az r=-1;unfold az;repeat' split;all_goals omega
  go_enter Tryz.func198,Tryz.ntmps198
  go_wp2_with fail
  go_ret;rw[HV.out];exact⟨rfl,rfl⟩
 ·have HV:Hid (az r=r - 65+10):=by show az r=r - 65+10;unfold az;repeat' split;all_goals omega
  go_enter Tryz.func198,Tryz.ntmps198
  go_wp2_with fail
  go_ret;rw[HV.out];exact⟨rfl,rfl⟩
 ·have HV:Hid (az r=-1):=by show az r=-1;unfold az;repeat' split;all_goals omega
  go_enter Tryz.func198,Tryz.ntmps198
  go_wp2_with fail
  go_ret;rw[HV.out];exact⟨rfl,rfl⟩
 ·have HV:Hid (az r=r - 97+10):=by show az r=r - 97+10;unfold az;repeat' split;all_goals omega
  go_enter Tryz.func198,Tryz.ntmps198
  go_wp2_with fail
  go_ret;rw[HV.out];exact⟨rfl,rfl⟩
 ·have HV:Hid (az r=-1):=by show az r=-1;unfold az;repeat' split;all_goals omega
  go_enter Tryz.func198,Tryz.ntmps198
  go_wp2_with fail
  go_ret;rw[HV.out];exact⟨rfl,rfl⟩
theorem eI (s:ByteArray) (k:Nat) (h:k<s.size):s.data.toList.take (k+1)=s.data.toList.take k++[s[k]]:=by
 rw[E8 (by simpa using h)];rfl
theorem ko (s:ByteArray) (k:Nat) (h:k<s.size):∃(r:Int) (wd:Nat),r=((Utf8.decode s k).1:Int)/\wd=(Utf8.decode s k).2/\0<=r/\r<=1114111/\1<=wd/\(az r=az (s[k]'h).toNat)/\(0<=az r->wd=1):=by
 have hm:(Utf8.decode s k).1<=1114111:=by
  have hb:∀j,(s.get! (k+j)).toNat<256:=fun j=>(s.get! (k+j)).toNat_lt;have h0:=hb 0;have h1:=hb 1;have h2:=hb 2;have h3:=hb 3;simp only[Utf8.decode];repeat' split
  all_goals simp_all [Utf8.runeError,Utf8.valid]
  all_goals omega
 refine⟨_,_,rfl,rfl,by omega,by omega,?_⟩;by_cases ha:(s[k]'h).toNat<128
 ·rw[decode_ascii s k h ha]
  exact⟨nR _,rfl,fun _=>rfl⟩
 ·have hh:=decode_high s k h (by omega)
  refine⟨hh.2,?_,fun h'=>?_⟩
  ·rw[fw (by omega),fw (by omega)]
  ·rw[fw (by omega)] at h';omega
theorem wN {base:Int} (hb:0<=base):∀(l:List UInt8) (n0:Int),0<=n0->l.all (dI base)=true->0<=l.foldl (fun n b=>n*base+az b.toNat) n0
 | [],n0,h,_=>h
 | b :: l,n0,h,ha=>by
   rw[List.all_cons,Fq] at ha;have h2:=ha.1;simp only[dI,EO] at h2;have h3:=Int.mul_nonneg h hb;exact wN hb l (n0*base+az b.toNat) (by omega) ha.2
theorem na {base:Int} (hb:0<=base) (l:List UInt8) (h:l.all (dI base)=true):0<=aZ base l:=wN hb l 0 (Gv _) h
def nB (s:ByteArray) (most:Int) (k:Nat) (n:Int) (over:Bool):Prop:=
 (s.data.toList.take k).all (dI 10)=true/\0<=n/\(over=false->n=aZ 10 (s.data.toList.take k)/\(k=0\/n<=most))/\(over=true->most<aZ 10 (s.data.toList.take k))
theorem nB.next {s:ByteArray} {most:Int} {k:Nat} {n:Int} {over:Bool} (h:nB s most k n over) (hk:k<s.size) {d:Int} (hd:d=az (s[k]'hk).toNat) (h0:0<=d) (h1:d<10) {n':Int} {over':Bool}
 (ho:over'=false->over=false/\n'=n*10+d/\n'<=most) (ho':over'=true->over=true\/most<d\/(most - d) / 10<n) (hn:0<=n'):nB s most (k+1) n' over':=by
 obtain⟨a,b,c,e⟩:=h;have hv:=na (base:=10) (by omega) _ a;unfold nB;rw[eI s k hk,List.all_append,a,js,<-hd];refine⟨?_,hn,fun hf=>?_,fun ht=>?_⟩
 ·simp only[List.all_cons,List.all_nil,Bool.and_true,Bool.true_and,dI,EO,<-hd]
  exact⟨h0,h1⟩
 ·obtain⟨p,q,r⟩:=ho hf
  have:=(c p).1;exact⟨by rw[q,this],.inr r⟩
 ·cases over
  ·have:=(c rfl).1
   rcases ho' ht with h|h|h
   ·cases h
   ·omega
   ·omega
  ·have:=e rfl
   omega
theorem xH (s:ByteArray) (most:Int) (hs:s.size<=9223372036854775807) (hm:most<=9223372036854775807) (hm0:-9223372036854775808<=most) (n e:Int) (hr:am s.data.toList 10 most=(n,e)) (w:World):
 Calls Tryz.prog 153 #[.string s,.int .i64 10,.int .i64 most] w fun en w'=>en=.returned (.tuple #[.int .i64 n,.int .i64 e])/\Below w.heap.size w w':=by
 have HR:=lH hr;clear hr;cases hz:s.data.toList.isEmpty
 case true=>
  have h2:s.toList.isEmpty=true:=by rw[ah];exact hz
  have hr:Hid ((0,2)=(n,e)):=by show (0,2)=(n,e);rw[<-HR.out];unfold am;rw[hz];rfl
  clear hz;go_enter Tryz.func153,Tryz.ntmps153
  go_wp2_with fail
  go_ret2
  obtain⟨rfl,rfl⟩:=FB hr.out;exact⟨rfl,EK _ _⟩
 have h2:s.toList.isEmpty=false:=by rw[ah];exact hz
 have HZ:=lH hz;clear hz;go_enter Tryz.func153,Tryz.ntmps153
 go_wp2_with fail
 go_loopw [8,9] (fun nv ov wr=>∃(k:Nat) (m:Int) (over:Bool),nv=.int .i64 m/\ov=.bool over/\m<=9223372036854775807/\k<=s.size/\wr.heap[w.heap.size]? = some (.stringIter s k)/\Below w.heap.size w wr/\nB s most k m over) (fun _ _ wr=>s.size - wr.iterPos w.heap.size)
 case atStart=>exact⟨0,0,false,rfl,rfl,by omega,by omega,World.iter_heap w s 0,(EK _ _).alloc (nR _) _,rfl,Gv _,fun _=>⟨rfl,.inl rfl⟩,fun h=>by cases h⟩
 case round=>
  obtain⟨k,m,over,rfl,rfl,hmm,hp,hit,hbw,hI⟩:=hrel;have HI:=lH hI;have HIT:=lH hit;have HBW:=lH hbw;have hm0':0<=m:=hI.2.1;have hsz:w.heap.size<wr.heap.size:=(EV.1 hit).1;clear hI hit hbw;by_cases hlt:k<s.size
  ·obtain⟨r,wd,hr,hwd,hr0,hr1,hwd1,hq,hq1⟩:=ko s k hlt
   have hnx:∀ty,(Instr.next (.pointer (some ⟨w.heap.size,0,none⟩)) true ty).run Tryz.prog wr=.ok (.tuple #[.bool true,.int .i64 k,.int .i32 r]) (wr.iterAt w.heap.size s (k+wd)):=fun ty=>by
    rw[GK wr w.heap.size s k ty HIT.out hlt,hr,hwd]
   have HIT2:=lH (Lib.iterAt_heap wr w.heap.size s k (k+wd) HIT.out);have HBW2:=lH (GP HBW.out (k:=w.heap.size) (nR _) s (k+wd));obtain⟨d,hd⟩:∃d,d=az r:=⟨_,rfl⟩;have hdr:-1<=d/\d<=15:=by rw[hd];exact j9 r
   have hd1:=hdr.1;have hd2:=hdr.2;have HD:=lH hd;have HQ:=lH hq;have HQ1:=lH hq1;clear hr hwd hdr hd hq hq1;go_wp2_with fail
   refine(pH r hr0 hr1 _).mono ?_;rintro en w1 ⟨rfl,rfl⟩;rw[<-HD.out];by_cases hbad:d<0\/10<=d
   ·have hR:Hid ((0,3)=(n,e)):=by
     show (0,3)=(n,e);rw[<-HR.out];unfold am;rw[HZ.out,cq hlt (q:=dI 10) (by unfold dI;rw[<-HQ.out,<-HD.out,EP];omega)];rfl
    rcases hbad with hbad|hbad
    ·go_wp2_with fail
     go_ret2
     obtain⟨rfl,rfl⟩:=FB hR.out;exact⟨rfl,HBW2.out⟩
    ·have cN:0<=d:=by omega
     go_wp2_with fail
     go_ret2
     obtain⟨rfl,rfl⟩:=FB hR.out;exact⟨rfl,HBW2.out⟩
   ·have cN:0<=d:=by omega
    have hdB:d<10:=by omega
    obtain rfl:wd=1:=HQ1.out (by rw[<-HD.out];exact cN);clear hbad;have hdq:Hid (d=az (s[k]'hlt).toNat):=by show d=_;rw[HD.out,HQ.out]
    cases over
    ·by_cases h3:most<d
     ·go_wp2_with fail
      go_roundw
      case rel=>exact⟨k+1,m,true,rfl,rfl,hmm,by omega,HIT2.out,HBW2.out,HI.out.next hlt hdq.out cN hdB (fun h=>by cases h) (fun _=>.inr (.inl h3)) hm0'⟩
      case measure=>
       simp only[World.iterPos,HIT2.out,HIT.out];omega
     ·have h3':d<=most:=by omega
      have hq0:0<=(most - d) / 10:=by omega
      by_cases h4:(most - d) / 10<m
      ·go_wp2_with fail
       go_roundw
       case rel=>exact⟨k+1,m,true,rfl,rfl,hmm,by omega,HIT2.out,HBW2.out,HI.out.next hlt hdq.out cN hdB (fun h=>by cases h) (fun _=>.inr (.inr h4)) hm0'⟩
       case measure=>
        simp only[World.iterPos,HIT2.out,HIT.out];omega
      ·have h5:m*10+d<=most:=by omega
       have e1:decide (most<d)=false:=by rw[EP];omega
       have e2:decide ((most - d) / 10<m)=false:=by rw[EP];omega
       go_wp2_with fail
       go_roundw
       case rel=>exact⟨k+1,m*10+d,false,rfl,rfl,by omega,by omega,HIT2.out,HBW2.out,HI.out.next hlt hdq.out cN hdB (fun _=>⟨rfl,rfl,h5⟩) (fun h=>by cases h) (by omega)⟩
       case measure=>
        simp only[World.iterPos,HIT2.out,HIT.out];omega
    ·go_wp2_with fail
     go_roundw
     case rel=>exact⟨k+1,m,true,rfl,rfl,hmm,by omega,HIT2.out,HBW2.out,HI.out.next hlt hdq.out cN hdB (fun h=>by cases h) (fun _=>.inl rfl) hm0'⟩
     case measure=>
      simp only[World.iterPos,HIT2.out,HIT.out];omega
  ·have hnx:∀ty,(Instr.next (.pointer (some ⟨w.heap.size,0,none⟩)) true ty).run Tryz.prog wr=_:=fun ty=>GA wr w.heap.size s k ty HIT.out hlt
   obtain rfl:k=s.size:=by omega
   have hT:s.data.toList.take s.size=s.data.toList:=Fh (by rw[<-Lib.size_eq];exact nR _);have HT:=lH hT
   have hz0:s.size≠0:=fun h0=>by
    have h1:=HZ.out;rw[Lib.size_eq,GF] at h0;rw[h0] at h1;cases h1
   cases over
   ·have hR:Hid ((m,0)=(n,e)):=by
     obtain⟨a,b,c,_⟩:=HI.out;rw[HT.out] at a c;obtain⟨c1,c2⟩:=c rfl;show (m,0)=(n,e);rw[<-HR.out];unfold am;rw[HZ.out,a,<-c1];rcases c2 with c2|c2
     ·exact absurd c2 hz0
     ·simp[c2]
    clear hT hz0;go_wp2_with fail
    go_ret2
    obtain⟨rfl,rfl⟩:=FB hR.out;exact⟨rfl,HBW.out⟩
   ·have hR:Hid ((0,5)=(n,e)):=by
     obtain⟨a,b,_,c⟩:=HI.out;rw[HT.out] at a c;have c1:=c rfl;show (0,5)=(n,e);rw[<-HR.out];unfold am;rw[HZ.out,a,if_neg (by simp),if_neg (by simp),if_neg (by omega)]
    clear hT hz0;go_wp2_with fail
    go_ret2
    obtain⟨rfl,rfl⟩:=FB hR.out;exact⟨rfl,HBW.out⟩
theorem rB (s:ByteArray) (most:Int) (hs:s.size<=9223372036854775807) (hm:most<=9223372036854775807) (hm0:-9223372036854775808<=most) (n e:Int) (hr:am s.data.toList 10 most=(n,e)) (w:World):
 Calls Tryz.prog 145 #[.string s,.int .i64 most] w fun en w'=>en=.returned (.tuple #[.int .i64 n,.int .i64 e])/\Below w.heap.size w w':=by
 have HR:=lH hr;clear hr;go_enter Tryz.func145,Tryz.ntmps145
 go_wp2_with fail
 refine(xH s most hs hm hm0 n e HR.out _).mono ?_;rintro en w1 ⟨rfl,hb⟩;go_wp2_with fail
 go_ret2
 exact⟨rfl,hb⟩
def nP (s:ByteArray) (most:Int) (k:Nat) (n:Int) (over:Bool):Prop:=
 (s.data.toList.take k).all (dI 16)=true/\0<=n/\(over=false->n=aZ 16 (s.data.toList.take k)/\(k=0\/n<=most))/\(over=true->most<aZ 16 (s.data.toList.take k))
theorem nP.next {s:ByteArray} {most:Int} {k:Nat} {n:Int} {over:Bool} (h:nP s most k n over) (hk:k<s.size) {d:Int} (hd:d=az (s[k]'hk).toNat) (h0:0<=d) (h1:d<16) {n':Int} {over':Bool}
 (ho:over'=false->over=false/\n'=n*16+d/\n'<=most) (ho':over'=true->over=true\/most<d\/(most - d) / 16<n) (hn:0<=n'):nP s most (k+1) n' over':=by
 obtain⟨a,b,c,e⟩:=h;have hv:=na (base:=16) (by omega) _ a;unfold nP;rw[eI s k hk,List.all_append,a,js,<-hd];refine⟨?_,hn,fun hf=>?_,fun ht=>?_⟩
 ·simp only[List.all_cons,List.all_nil,Bool.and_true,Bool.true_and,dI,EO,<-hd]
  exact⟨h0,h1⟩
 ·obtain⟨p,q,r⟩:=ho hf
  have:=(c p).1;exact⟨by rw[q,this],.inr r⟩
 ·cases over
  ·have:=(c rfl).1
   rcases ho' ht with h|h|h
   ·cases h
   ·omega
   ·omega
  ·have:=e rfl
   omega
theorem zm (s:ByteArray) (most:Int) (hs:s.size<=9223372036854775807) (hm:most<=9223372036854775807) (hm0:-9223372036854775808<=most) (n e:Int) (hr:am s.data.toList 16 most=(n,e)) (w:World):
 Calls Tryz.prog 153 #[.string s,.int .i64 16,.int .i64 most] w fun en w'=>en=.returned (.tuple #[.int .i64 n,.int .i64 e])/\Below w.heap.size w w':=by
 have HR:=lH hr;clear hr;cases hz:s.data.toList.isEmpty
 case true=>
  have h2:s.toList.isEmpty=true:=by rw[ah];exact hz
  have hr:Hid ((0,2)=(n,e)):=by show (0,2)=(n,e);rw[<-HR.out];unfold am;rw[hz];rfl
  clear hz;go_enter Tryz.func153,Tryz.ntmps153
  go_wp2_with fail
  go_ret2
  obtain⟨rfl,rfl⟩:=FB hr.out;exact⟨rfl,EK _ _⟩
 have h2:s.toList.isEmpty=false:=by rw[ah];exact hz
 have HZ:=lH hz;clear hz;go_enter Tryz.func153,Tryz.ntmps153
 go_wp2_with fail
 go_loopw [8,9] (fun nv ov wr=>∃(k:Nat) (m:Int) (over:Bool),nv=.int .i64 m/\ov=.bool over/\m<=9223372036854775807/\k<=s.size/\wr.heap[w.heap.size]? = some (.stringIter s k)/\Below w.heap.size w wr/\nP s most k m over) (fun _ _ wr=>s.size - wr.iterPos w.heap.size)
 case atStart=>exact⟨0,0,false,rfl,rfl,by omega,by omega,World.iter_heap w s 0,(EK _ _).alloc (nR _) _,rfl,Gv _,fun _=>⟨rfl,.inl rfl⟩,fun h=>by cases h⟩
 case round=>
  obtain⟨k,m,over,rfl,rfl,hmm,hp,hit,hbw,hI⟩:=hrel;have HI:=lH hI;have HIT:=lH hit;have HBW:=lH hbw;have hm0':0<=m:=hI.2.1;have hsz:w.heap.size<wr.heap.size:=(EV.1 hit).1;clear hI hit hbw;by_cases hlt:k<s.size
  ·obtain⟨r,wd,hr,hwd,hr0,hr1,hwd1,hq,hq1⟩:=ko s k hlt
   have hnx:∀ty,(Instr.next (.pointer (some ⟨w.heap.size,0,none⟩)) true ty).run Tryz.prog wr=.ok (.tuple #[.bool true,.int .i64 k,.int .i32 r]) (wr.iterAt w.heap.size s (k+wd)):=fun ty=>by
    rw[GK wr w.heap.size s k ty HIT.out hlt,hr,hwd]
   have HIT2:=lH (Lib.iterAt_heap wr w.heap.size s k (k+wd) HIT.out);have HBW2:=lH (GP HBW.out (k:=w.heap.size) (nR _) s (k+wd));obtain⟨d,hd⟩:∃d,d=az r:=⟨_,rfl⟩;have hdr:-1<=d/\d<=15:=by rw[hd];exact j9 r
   have hd1:=hdr.1;have hd2:=hdr.2;have HD:=lH hd;have HQ:=lH hq;have HQ1:=lH hq1;clear hr hwd hdr hd hq hq1;go_wp2_with fail
   refine(pH r hr0 hr1 _).mono ?_;rintro en w1 ⟨rfl,rfl⟩;rw[<-HD.out];by_cases hbad:d<0\/16<=d
   ·have hR:Hid ((0,3)=(n,e)):=by
     show (0,3)=(n,e);rw[<-HR.out];unfold am;rw[HZ.out,cq hlt (q:=dI 16) (by unfold dI;rw[<-HQ.out,<-HD.out,EP];omega)];rfl
    rcases hbad with hbad|hbad
    ·go_wp2_with fail
     go_ret2
     obtain⟨rfl,rfl⟩:=FB hR.out;exact⟨rfl,HBW2.out⟩
    ·have cN:0<=d:=by omega
     go_wp2_with fail
     go_ret2
     obtain⟨rfl,rfl⟩:=FB hR.out;exact⟨rfl,HBW2.out⟩
   ·have cN:0<=d:=by omega
    have hdB:d<16:=by omega
    obtain rfl:wd=1:=HQ1.out (by rw[<-HD.out];exact cN);clear hbad;have hdq:Hid (d=az (s[k]'hlt).toNat):=by show d=_;rw[HD.out,HQ.out]
    cases over
    ·by_cases h3:most<d
     ·go_wp2_with fail
      go_roundw
      case rel=>exact⟨k+1,m,true,rfl,rfl,hmm,by omega,HIT2.out,HBW2.out,HI.out.next hlt hdq.out cN hdB (fun h=>by cases h) (fun _=>.inr (.inl h3)) hm0'⟩
      case measure=>
       simp only[World.iterPos,HIT2.out,HIT.out];omega
     ·have h3':d<=most:=by omega
      have hq0:0<=(most - d) / 16:=by omega
      by_cases h4:(most - d) / 16<m
      ·go_wp2_with fail
       go_roundw
       case rel=>exact⟨k+1,m,true,rfl,rfl,hmm,by omega,HIT2.out,HBW2.out,HI.out.next hlt hdq.out cN hdB (fun h=>by cases h) (fun _=>.inr (.inr h4)) hm0'⟩
       case measure=>
        simp only[World.iterPos,HIT2.out,HIT.out];omega
      ·have h5:m*16+d<=most:=by omega
       have e1:decide (most<d)=false:=by rw[EP];omega
       have e2:decide ((most - d) / 16<m)=false:=by rw[EP];omega
       go_wp2_with fail
       go_roundw
       case rel=>exact⟨k+1,m*16+d,false,rfl,rfl,by omega,by omega,HIT2.out,HBW2.out,HI.out.next hlt hdq.out cN hdB (fun _=>⟨rfl,rfl,h5⟩) (fun h=>by cases h) (by omega)⟩
       case measure=>
        simp only[World.iterPos,HIT2.out,HIT.out];omega
    ·go_wp2_with fail
     go_roundw
     case rel=>exact⟨k+1,m,true,rfl,rfl,hmm,by omega,HIT2.out,HBW2.out,HI.out.next hlt hdq.out cN hdB (fun h=>by cases h) (fun _=>.inl rfl) hm0'⟩
     case measure=>
      simp only[World.iterPos,HIT2.out,HIT.out];omega
  ·have hnx:∀ty,(Instr.next (.pointer (some ⟨w.heap.size,0,none⟩)) true ty).run Tryz.prog wr=_:=fun ty=>GA wr w.heap.size s k ty HIT.out hlt
   obtain rfl:k=s.size:=by omega
   have hT:s.data.toList.take s.size=s.data.toList:=Fh (by rw[<-Lib.size_eq];exact nR _);have HT:=lH hT
   have hz0:s.size≠0:=fun h0=>by
    have h1:=HZ.out;rw[Lib.size_eq,GF] at h0;rw[h0] at h1;cases h1
   cases over
   ·have hR:Hid ((m,0)=(n,e)):=by
     obtain⟨a,b,c,_⟩:=HI.out;rw[HT.out] at a c;obtain⟨c1,c2⟩:=c rfl;show (m,0)=(n,e);rw[<-HR.out];unfold am;rw[HZ.out,a,<-c1];rcases c2 with c2|c2
     ·exact absurd c2 hz0
     ·simp[c2]
    clear hT hz0;go_wp2_with fail
    go_ret2
    obtain⟨rfl,rfl⟩:=FB hR.out;exact⟨rfl,HBW.out⟩
   ·have hR:Hid ((0,5)=(n,e)):=by
     obtain⟨a,b,_,c⟩:=HI.out;rw[HT.out] at a c;have c1:=c rfl;show (0,5)=(n,e);rw[<-HR.out];unfold am;rw[HZ.out,a,if_neg (by simp),if_neg (by simp),if_neg (by omega)]
    clear hT hz0;go_wp2_with fail
    go_ret2
    obtain⟨rfl,rfl⟩:=FB hR.out;exact⟨rfl,HBW.out⟩
theorem Do (s:ByteArray) (most:Int) (hs:s.size<=9223372036854775807) (hm:most<=9223372036854775807) (hm0:-9223372036854775808<=most) (n e:Int) (hr:am s.data.toList 16 most=(n,e)) (w:World):
 Calls Tryz.prog 117 #[.string s,.int .i64 most] w fun en w'=>en=.returned (.tuple #[.int .i64 n,.int .i64 e])/\Below w.heap.size w w':=by
 have HR:=lH hr;clear hr;go_enter Tryz.func117,Tryz.ntmps117
 go_wp2_with fail
 refine(zm s most hs hm hm0 n e HR.out _).mono ?_;rintro en w1 ⟨rfl,hb⟩;go_wp2_with fail
 go_ret2
 exact⟨rfl,hb⟩
end Go.Proofs.YthjbodpeckebiaaGreatDoor