/- Parts of the proof: F16 A1 F22. -/
import Derived.Test.YtdeimnnpcfncpaaGreatDoorCR16
set_option linter.unusedVariables false
set_option linter.unusedSimpArgs false
set_option maxRecDepth 100000
set_option maxHeartbeats 64000000
section
namespace Go.Proofs.YtdeimnnpcfncpaaGreatDoor
open Go Go.RowKit
theorem qcC (l:List UInt8): ∀c∈l.take (qaz l),isD c=true:=by
 induction l with
 |nil=>intro c h;cases h
 |cons x t ih=>
  intro c h;rw[qbX] at h
  by_cases g:isD x=true
  ·rw[if_pos g,List.take_succ_cons] at h
   cases h with
   |head=>exact g
   |tail _ h=>exact ih c h
  ·rw[if_neg g] at h;cases h
theorem qbS (l:List UInt8) (st:MS) (h: ∀c∈l,isD c=true):(l.foldl qaC st).dot=st.dot∧(l≠[]→(l.foldl qaC st).seen=true)∧(st.seen=true→(l.foldl qaC st).seen=true):=by
 induction l generalizing st with
 |nil=>exact⟨rfl,fun h=>absurd rfl h,fun h=>h⟩
 |cons c t ih=>
  have hc:=(qaq c).1 (h c (List.mem_cons_self ..));have hne:c≠46:=fun e=>by subst e;exact absurd hc (by decide)
  have h1:(qaC st c).dot=st.dot∧(qaC st c).seen=true:=by
   unfold qaC;rw[if_neg hne]
   split
   ·exact⟨rfl,rfl⟩
   ·split<;>exact⟨rfl,rfl⟩
  have:=ih (qaC st c) (fun x hx=>h x (List.mem_cons_of_mem _ hx));refine⟨this.1.trans h1.1,fun _=>this.2.2 h1.2,fun _=>this.2.2 h1.2⟩
theorem qkG (l r:List UInt8) (N:Nat) (h:qfh l=(N,r)) (hN:N≠0): ∃P,l=P++r∧P≠[]∧(qby P).seen=true∧ ∀k (hk:k<P.length),isD P[k]=true∨(P[k]=46∧(qby (P.take k)).dot=false):=by
 unfold qfh at h;dsimp only at h;have hd:=qcC l;have hl:l=l.take (qaz l)++l.drop (qaz l):=(List.take_append_drop _ _).symm;have hlen:(l.take (qaz l)).length=qaz l:=List.length_take_of_le (qbt l);generalize l.take (qaz l)=D at*
 split at h
 ·rename_i hr
  simp only[Prod.mk.injEq] at h;obtain⟨h1,rfl⟩:=h;refine⟨D,by rw[hr] at hl;exact hl,fun e=>hN (by rw[←h1,←hlen,e];rfl),(qbS D ms0 hd).2.1 (fun e=>hN (by rw[←h1,←hlen,e];rfl)),fun k hk=> .inl (hd _ (List.getElem_mem _))⟩
 ·rename_i c t hr
  split at h
  ·rename_i hc
   subst hc;simp only[Prod.mk.injEq] at h;obtain⟨h1,rfl⟩:=h;have ht:=qcC t;have htl:t=t.take (qaz t)++t.drop (qaz t):=(List.take_append_drop _ _).symm;have htlen:(t.take (qaz t)).length=qaz t:=List.length_take_of_le (qbt t);generalize t.take (qaz t)=T at*;have hm:(qby (D++[46])).dot=true:=by rw[qg1];rfl
   refine⟨D++46::T,?_,by simp,?_,fun k hk=>?_⟩
   ·rw[hr] at hl
    conv=>lhs;rw[hl,htl]
    simp
   ·unfold qby;rw[List.foldl_append,List.foldl_cons];have a:=qbS D ms0 hd
    by_cases hT:T=[]
    ·have hD:D≠[]:=fun e=>hN (by rw[←h1,←hlen,←htlen,e,hT];rfl)
     have a3:=a.2.1 hD;have:(qaC (D.foldl qaC ms0) 46).seen=true:=a3;exact(qbS T _ ht).2.2 this
    ·exact(qbS T _ ht).2.1 hT
   ·by_cases g:k<D.length
    ·left;rw[List.getElem_append_left g];exact hd _ (List.getElem_mem _)
    ·by_cases g2:k=D.length
     ·subst g2;right;refine⟨by simp,?_⟩;rw[List.take_left];exact(qbS D ms0 hd).1
     ·left;rw[List.getElem_append_right (by omega),List.getElem_cons];rw[dif_neg (by omega)];exact ht _ (List.getElem_mem _)
  ·simp only[Prod.mk.injEq] at h;obtain⟨h1,rfl⟩:=h;refine⟨D,by rw[hr] at hl;exact hl,fun e=>hN (by rw[←h1,←hlen,e];rfl),(qbS D ms0 hd).2.1 (fun e=>hN (by rw[←h1,←hlen,e];rfl)),fun k hk=> .inl (hd _ (List.getElem_mem _))⟩
def ngL (l:List UInt8):Bool:=l.head?==some 45
def qas (l:List UInt8):Nat:=l.foldl (fun e c=>e*10+(c.toNat - 48)) 0
def qfw (r:List UInt8):Int:=match r with| []=>0|_::t=>if ngL t then -(qas (sgd t):Int) else (qas (sgd t):Int)
def tlL (l:List UInt8):List UInt8:=(qfh (sgd l)).2
def qfi (l:List UInt8):List UInt8:=(sgd l).take ((sgd l).length - (tlL l).length)
theorem qc9 (l:List UInt8):(sgd l=l∧ngL l=false∧(l.getD 0 0≠43∧l.getD 0 0≠45))∨(∃c t,l=c::t∧sgd l=t∧((ngL l=false∧c=43)∨(ngL l=true∧c=45))):=by
 cases l with
 |nil=>left;exact⟨rfl,rfl,by decide,by decide⟩
 |cons c t=>
  by_cases g:c=43∨c=45
  ·right;refine⟨c,t,rfl,by rw[sgd,if_pos g],?_⟩;rcases g with rfl|rfl
   ·left;exact⟨by unfold ngL;rfl,rfl⟩
   ·right;exact⟨by unfold ngL;rfl,rfl⟩
  ·left;refine⟨by rw[sgd,if_neg g],?_,fun e=>g (.inl e),fun e=>g (.inr e)⟩;unfold ngL;simp only[List.head?_cons,beq_eq_false_iff_ne,ne_eq,Option.some.injEq];exact fun e=>g (.inr e)
theorem qpx (A P r:List UInt8) (k:Nat) (h:k<P.length):(A++(P++r)).getD (A.length+k) 0=P[k]:=by
 rw[gZd,List.getElem?_append_right (by omega),Nat.add_sub_cancel_left,List.getElem?_append_left h,gZq h];rfl
theorem qiZ (A P r:List UInt8) (k:Nat) (h:k≤P.length):((A++(P++r)).take (A.length+k)).drop A.length=P.take k:=by
 rw[List.take_append,List.take_of_length_le (by omega),Nat.add_sub_cancel_left,List.drop_left,List.take_append_of_le_length h]
theorem qdt (l:List UInt8) (h:qaz l=l.length): ∀c∈l,isD c=true:=by
 have:=qcC l;rwa[h,List.take_length] at this
end Go.Proofs.YtdeimnnpcfncpaaGreatDoor
end
section
namespace Go.Proofs.YtdeimnnpcfncpaaGreatDoor.X
open Go Go.RowKit
def ltr (o c:UInt8):Bool:=(decide (97≤c.toNat)&&decide (c.toNat≤122))||(decide (65≤c.toNat)&&decide (c.toNat≤90))||c==95||c==o
theorem qlg (o c:UInt8):ltr o c=((decide (97≤(c.toNat:Int))&&decide ((c.toNat:Int)≤122))||(decide (65≤(c.toNat:Int))&&decide ((c.toNat:Int)≤90))||((c.toNat:Int)==95)||((c.toNat:Int)==(o.toNat:Int))):=by
 unfold ltr
 have e1:(c==95)=((c.toNat:Int)==95):=by
  rw[Bool.eq_iff_iff,beq_iff_eq,beq_iff_eq];exact⟨fun h=>by rw[h];rfl,fun h=>UInt8.toNat_inj.1 (by show c.toNat=95;omega)⟩
 have e2:(c==o)=((c.toNat:Int)==(o.toNat:Int)):=by
  rw[Bool.eq_iff_iff,beq_iff_eq,beq_iff_eq];exact⟨fun h=>by rw[h],fun h=>UInt8.toNat_inj.1 (by omega)⟩
 rw[e1,e2]
 congr 2
 ·congr 1
  ·congr 1<;>(rw[decide_eq_decide];omega)
  ·congr 1<;>(rw[decide_eq_decide];omega)
def nmC (o:UInt8) (l:List UInt8):Bool:=l.all fun c=>ltr o c||isD c
def qam (o:UInt8) (l:List UInt8):Bool:=decide (1≤l.length)&&decide (l.length≤128)&&(ltr o (l.getD 0 0)&&nmC o (l.drop 1))
theorem qrl {o:UInt8} {l:List UInt8} {i:Nat} (hi:i<l.length):nmC o (l.drop i)=((ltr o (l.getD i 0)||isD (l.getD i 0))&&nmC o (l.drop (i+1))):=by
 rw[qaf l i hi];rfl
theorem qgY (s:ByteArray) (hs:s.size≤281474976710656) (o:UInt8) (w:World):Calls Tryz.prog 117 #[.string s,.int .u8 (o.toNat:Int)] w fun e w'=>e= .returned (.bool (qam o s.data.toList))∧w=w':=by
 obtain⟨l,hl⟩: ∃l,Hid (l=s.data.toList):=⟨_,Lh rfl⟩;have hlen:Hid (l.length=s.size):=Lh (by rw[hl.out];exact qat s);have hbt:Hid (∀i,bt s i=l.getD i 0):=Lh (fun i=>by unfold bt;rw[hl.out]);rw[←hl.out]
 by_cases h1:s.size<1
 ·have hF:Hid (qam o l=false):=Lh (by unfold qam;rw[hlen.out,dF (show¬1≤s.size by omega)];rfl);have u1:decide ((s.size:Int)<1)=true:=dT (by omega);have u2:decide (s.size<1)=true:=dT h1;go_enter Tryz.func117,Tryz.ntmps117;go_wp2_with fail;go_ret;exact⟨by rw[hF.out];rfl,rfl⟩
 ·have u1:decide ((s.size:Int)<1)=false:=dF (by omega);have u2:decide (s.size<1)=false:=dF h1
  by_cases h2:128<s.size
  ·have hF:Hid (qam o l=false):=Lh (by unfold qam;rw[hlen.out,dF (show¬s.size≤128 by omega),Bool.and_false];rfl);have u3:decide ((128:Int)<(s.size:Int))=true:=dT (by omega);have u4:decide (128<s.size)=true:=dT h2;go_enter Tryz.func117,Tryz.ntmps117;go_wp2_with fail;go_ret;exact⟨by rw[hF.out];rfl,rfl⟩
  ·have u3:decide ((128:Int)<(s.size:Int))=false:=dF (by omega);have u4:decide (128<s.size)=false:=dF h2
   have hF:Hid (qam o l=(ltr o (l.getD 0 0)&&nmC o (l.drop 1))):=Lh (by
    unfold qam;rw[hlen.out,dT (show 1≤s.size by omega),dT (show s.size≤128 by omega)];rfl)
   obtain⟨N,hN⟩: ∃N,Hid (N=qam o l):=⟨_,Lh rfl⟩;rw[←hN.out] at hF⊢;go_enter Tryz.func117,Tryz.ntmps117;go_wp2_with fail;go_loopg [18] (s.size+1) (fun gk s18 wx=> ∃i:Nat,i≤s.size∧s.size - i<gk∧s18= .int .i64 (i:Int)∧Hid (0<i→N=nmC o (l.drop i))∧w=wx)
   case atStart=>exact⟨0,by omega,by omega,rfl,Lh (fun h=>by omega),rfl⟩
   case round=>
    obtain⟨i,hi,hgk,rfl,hI,rfl⟩:=hrel
    by_cases hlt:i<s.size
    ·have u5:decide ((i:Int)<(s.size:Int))=true:=dT (by omega);have u6:decide (i<s.size)=true:=dT hlt;obtain⟨c,hc,hB⟩:=qbG s i hlt;have hc2:c=l.getD i 0:=by rw[←hbt.out];exact hc.out.symm
     have hst:=qrl (o:=o) (l:=l) (i:=i) (by rw[hlen.out];exact hlt);rw[←hc2] at hst;have h0c:Hid (i=0→l.getD 0 0=c):=Lh (fun h=>by rw[hc2,h]);replace hst:=Lh hst;clear hc hc2;go_upto_region 7 with (fail)
     go_cut [6,7] (fun s6 s7 wx=>s6= .int .u8 (c.toNat:Int)∧s7= .bool (ltr o c)∧w=wx)
     case first=>
      go_wp2_with fail
      all_goals go_meet
      all_goals clear hst h0c hI hN hF hbt hlen hl hB hgk
      all_goals refine⟨by first|rfl|(congr 1;omega),?_,rfl⟩
      all_goals rw[qlg]
      all_goals congr 1
      all_goals grind
     case rest=>
      obtain⟨rfl,rfl,rfl⟩:=hcut;have hIs:=hI
      cases hb:ltr o c with
      |true=>
       have hI2:Hid (0<i+1→N=nmC o (l.drop (i+1))):=Lh (fun _=>by
        by_cases h0:i=0
        ·rw[hF.out,h0c.out h0,hb,h0];rfl
        ·rw[hI.out (by omega),hst.out,hb];rfl)
       clear hb hst h0c hI hIs;go_wp2_with fail;go_roundg (gk - 1)
       case measure=>omega
       case rel=>exact⟨i+1,by omega,by omega,by go_num,hI2,rfl⟩
      |false=>
       by_cases h0:i=0
       ·have hN0:Hid (N=false):=Lh (by rw[hF.out,h0c.out h0,hb];rfl);have u7:((i:Int)==0)=true:=by rw[h0];rfl
        clear hb hst h0c hI hIs hF h0;go_wp2_with fail;go_ret;exact⟨by rw[hN0.out];rfl,rfl⟩
       ·have u7:((i:Int)==0)=false:=beq_eq_false_iff_ne.2 (by omega)
        cases hd:isD c with
        |true=>
         have hcd:=(qaq c).1 hd;have v1:decide ((c.toNat:Int)<48)=false:=dF (by omega);have v2:decide ((57:Int)<(c.toNat:Int))=false:=dF (by omega);have v1':decide (c.toNat<48)=false:=dF (by omega);have v2':decide (57<c.toNat)=false:=dF (by omega)
         have hI2:Hid (0<i+1→N=nmC o (l.drop (i+1))):=Lh (fun _=>by
          rw[hI.out (by omega),hst.out,hb,hd];rfl)
         clear hb hst h0c hI hIs hd hcd h0;go_wp2_with fail;go_roundg (gk - 1)
         case measure=>omega
         case rel=>exact⟨i+1,by omega,by omega,by go_num,hI2,rfl⟩
        |false=>
         have hcd: ¬(48≤c.toNat∧c.toNat≤57):=fun h=>by rw[(qaq c).2 h] at hd;cases hd
         have hN0:Hid (N=false):=Lh (by rw[hI.out (by omega),hst.out,hb,hd];rfl);clear hb hst h0c hI hIs hd h0 hF
         by_cases h48:c.toNat<48
         ·have v1:decide ((c.toNat:Int)<48)=true:=dT (by omega);have v1':decide (c.toNat<48)=true:=dT h48;go_wp2_with fail;go_ret;exact⟨by rw[hN0.out];rfl,rfl⟩
         ·have v1:decide ((c.toNat:Int)<48)=false:=dF (by omega);have v2:decide ((57:Int)<(c.toNat:Int))=true:=dT (by omega);have v1':decide (c.toNat<48)=false:=dF h48;have v2':decide (57<c.toNat)=true:=dT (by omega);go_wp2_with fail;go_ret;exact⟨by rw[hN0.out];rfl,rfl⟩
    ·obtain rfl:i=s.size:=by omega
     have u5:decide ((s.size:Int)<(s.size:Int))=false:=dF (by omega);have u6:decide (s.size<s.size)=false:=dF (by omega)
     have hN1:Hid (N=true):=Lh (by
      rw[hI.out (by omega),List.drop_of_length_le (by rw[hlen.out];exact Nat.le_refl _)];rfl)
     clear hI hF;go_wp2_with fail;go_ret;exact⟨by rw[hN1.out];rfl,rfl⟩
theorem qjg (s:ByteArray) (hs:s.size≤281474976710656) (w:World):Calls Tryz.prog 108 #[.string s] w fun e w'=>e= .returned (.bool (qam 95 s.data.toList))∧w=w':=by
 have c:=qgY s hs 95 w;rw[show(((95:UInt8).toNat:Int))=95 from rfl] at c;go_enter Tryz.func108,Tryz.ntmps108;go_wp2_with fail;refine c.mono ?_;rintro x w1 ⟨rfl,rfl⟩;go_wp2_with fail;go_ret;exact⟨rfl,rfl⟩
theorem qcF (s:ByteArray) (hs:s.size≤281474976710656) (w:World):Calls Tryz.prog 60 #[.string s] w fun e w'=>e= .returned (.bool (qam 58 s.data.toList))∧w=w':=by
 have c:=qgY s hs 58 w;rw[show(((58:UInt8).toNat:Int))=58 from rfl] at c;go_enter Tryz.func60,Tryz.ntmps60;go_wp2_with fail;refine c.mono ?_;rintro x w1 ⟨rfl,rfl⟩;go_wp2_with fail;go_ret;exact⟨rfl,rfl⟩
def qa9 (l:List UInt8):Bool:=decide (l.length≤1024)&&((L.ck ⟨l.toArray⟩).2==0)
theorem qvT (s:ByteArray):(⟨s.data.toList.toArray⟩:ByteArray)=s:=qbm (by simp)
theorem qfJ (s:ByteArray) (hs:s.size≤281474976710656) (w:World):Calls Tryz.prog 109 #[.string s] w fun e w'=>e= .returned (.bool (qa9 s.data.toList))∧w=w':=by
 have hlen:=qat s
 by_cases h:s.size≤1024
 ·have u1:decide ((s.size:Int)≤1024)=true:=dT (by omega);have u2:decide (s.size≤1024)=true:=dT h;have c:=L.valid_any s (by omega) w;have hF:Hid (qa9 s.data.toList=((L.ck s).2==0)):=Lh (by unfold qa9;rw[hlen,u2,qvT];rfl);obtain⟨b,hb⟩: ∃b,((L.ck s).2==0)=b:=⟨_,rfl⟩;rw[hb] at c hF;clear hb hlen;go_enter Tryz.func109,Tryz.ntmps109;go_wp2_with fail;refine c.mono ?_;rintro x w1 ⟨rfl,rfl⟩;go_wp2_with fail;go_ret;exact⟨by rw[hF.out];rfl,rfl⟩
 ·have u1:decide ((s.size:Int)≤1024)=false:=dF (by omega);have u2:decide (s.size≤1024)=false:=dF h;have hF:Hid (qa9 s.data.toList=false):=Lh (by unfold qa9;rw[hlen,u2];rfl);clear hlen;go_enter Tryz.func109,Tryz.ntmps109;go_wp2_with fail;go_ret;exact⟨by rw[hF.out];rfl,rfl⟩
end Go.Proofs.YtdeimnnpcfncpaaGreatDoor.X
end
section
namespace Go.Proofs.YtdeimnnpcfncpaaGreatDoor
open Go
theorem qj9 (l:List UInt8) (x:Nat):l.foldl (fun e c=>e*10+(c.toNat - 48)) x=x*10^l.length+qas l:=by
 unfold qas
 induction l generalizing x with
 |nil=>simp
 |cons c t ih=>
  rw[List.foldl_cons,List.foldl_cons,ih,ih (0*10+(c.toNat - 48)),List.length_cons,Nat.pow_succ];rw[Nat.add_mul,Nat.zero_mul,Nat.zero_add,Nat.mul_assoc,Nat.mul_comm 10];omega
theorem qa6 (a b:List UInt8):qas (a++b)=qas a*10^b.length+qas b:=by
 conv=>lhs;unfold qas
 rw[List.foldl_append,qj9];rfl
theorem qaS (c:UInt8) (t:List UInt8):qas (c::t)=(c.toNat - 48)*10^t.length+qas t:=by
 rw[show c::t=[c]++t from rfl,qa6];simp[qas]
theorem qcD (c:UInt8):qas [c]=c.toNat - 48:=by simp[qas]
theorem qcZ (F:Nat):qas (Lib.decDigits F)=F:=by
 induction F using Nat.strongRecOn with
 |_ F ih=>
  rw[Lib.decDigits]
  split
  ·rename_i h
   rw[qcD,qaZ _ (by omega)];omega
  ·rename_i h
   rw[qa6,ih (F/10) (by omega),qcD,qaZ _ (by omega)];simp;omega
theorem qn6 (l:List UInt8) (h:qaQ l):qas (qcd l).1+(qcd l).2*10^l.length=2*qas l:=by
 induction l with
 |nil=>rfl
 |cons c t ih=>
  have hc:=h c (List.mem_cons_self ..);have ht:qaQ t:=fun x hx=>h x (List.mem_cons_of_mem _ hx)
  have i:=ih ht;obtain⟨b1,b2,b3⟩:=qeV t ht;have hd:qcd (c::t)=(UInt8.ofNat (48+(2*(c.toNat - 48)+(qcd t).2)%10)::(qcd t).1,(2*(c.toNat - 48)+(qcd t).2)/10):=qlD (c::t) 0 (by simp);rw[hd];dsimp only;rw[qaS,qaS,qaZ _ (by omega),b3,List.length_cons,Nat.pow_succ];generalize (qcd t).2=k at*;generalize qas (qcd t).1=X at*;generalize qas t=Y at*;generalize 10^t.length=Z at*;have e:48+(2*(c.toNat - 48)+k)%10 - 48=(2*(c.toNat - 48)+k)%10:=by omega
  rw[e];obtain⟨d,hd'⟩: ∃d,d=c.toNat - 48:=⟨_,rfl⟩;rw[←hd']
  have key:(2*d+k)%10*Z+(2*d+k)/10*(Z*10)=(2*d+k)*Z:=by
   have:=Nat.div_add_mod (2*d+k) 10
   calc (2*d+k)%10*Z+(2*d+k)/10*(Z*10)=(10*((2*d+k)/10)+(2*d+k)%10)*Z:=by
         rw[Nat.add_mul,Nat.mul_assoc,Nat.mul_comm ((2*d+k)/10) (Z*10),Nat.mul_comm Z 10,Nat.mul_assoc,Nat.mul_comm ((2*d+k)/10) Z];omega
    _=(2*d+k)*Z:=by rw[this]
  rw[Nat.add_mul] at key;have e2:2*(d*Z+Y)=2*d*Z+2*Y:=by rw[Nat.mul_add,Nat.mul_assoc]
  rw[e2];omega
theorem qpa (l:List UInt8) (h:qaQ l):qas (qhQ l)=2*qas l:=by
 have i:=qn6 l h;obtain⟨b1,b2,b3⟩:=qeV l h;unfold qhQ
 split
 ·rename_i h0;rw[h0] at i;omega
 ·rw[qaS,qaZ _ (by omega),b3];rw[show 48+(qcd l).2 - 48=(qcd l).2 by omega];omega
theorem qoW (n:Nat) (l:List UInt8) (h:qaQ l):qas (qnn n l)=2^n*qas l∧qaQ (qnn n l):=by
 induction n generalizing l with
 |zero=>exact⟨by simp[qnn],h⟩
 |succ n ih=>
  obtain⟨a,b⟩:=ih (qhQ l) (qk2 l h).1;exact⟨by show qas (qnn n (qhQ l))=_;rw[a,qpa l h,Nat.pow_succ,Nat.mul_assoc],b⟩
theorem qn2 (l:List UInt8) (h:qaQ l): ∀r,r≤1→r*10^l.length+qas l=2*qas (qdp r l).1+(qdp r l).2:=by
 induction l with
 |nil=>intro r _;simp[qdp,qas]
 |cons c t ih=>
  intro r hr;have hc:=h c (List.mem_cons_self ..);have ht:qaQ t:=fun x hx=>h x (List.mem_cons_of_mem _ hx)
  have hd:qdp r (c::t)=(UInt8.ofNat (48+(10*r+(c.toNat - 48))/2)::(qdp ((10*r+(c.toNat - 48))%2) t).1,(qdp ((10*r+(c.toNat - 48))%2) t).2):=qmT r (c::t) 0 (by simp);obtain⟨b1,b2,b3⟩:=qhU t ht ((10*r+(c.toNat - 48))%2) (by omega);have i:=ih ht ((10*r+(c.toNat - 48))%2) (by omega);rw[hd];dsimp only;rw[qaS,qaS,qaZ _ (by omega),b3,List.length_cons,Nat.pow_succ];obtain⟨d,hd'⟩: ∃d,d=c.toNat - 48:=⟨_,rfl⟩;rw[←hd'] at i⊢;generalize (qdp ((10*r+d)%2) t).2=k at*;generalize qas (qdp ((10*r+d)%2) t).1=X at*;generalize qas t=Y at*;generalize 10^t.length=Z at*;rw[show 48+(10*r+d)/2 - 48=(10*r+d)/2 by omega];have e1:r*(Z*10)+(d*Z+Y)=(10*r+d)*Z+Y:=by rw[Nat.add_mul,Nat.mul_comm 10 r,Nat.mul_assoc,Nat.mul_comm 10 Z];omega
  have e2:(10*r+d)*Z=2*((10*r+d)/2*Z)+(10*r+d)%2*Z:=by
   conv=>lhs;rw[←Nat.div_add_mod (10*r+d) 2]
   rw[Nat.add_mul,Nat.mul_assoc]
  rw[e1,e2];omega
theorem qoa (l:List UInt8) (h:qaQ l):qas (qgo l)*2=qas l*10^qfx l:=by
 have i:=qn2 l h 0 (by decide);obtain⟨b1,b2,b3⟩:=qhU l h 0 (by decide);unfold qgo qfx
 split
 ·rename_i h0;rw[h0] at i;simp;omega
 ·rw[qa6,qcD,show(53:UInt8).toNat - 48=5 from rfl];simp only[List.length_cons,List.length_nil,Nat.zero_add,Nat.pow_one];omega
theorem qoX (n:Nat) (l:List UInt8) (q:Nat) (h:qaQ l): ∃L p,qq6 n l q=(L,q+p)∧qaQ L∧qas L*2^n=qas l*10^p∧L.length=l.length+p∧p≤n:=by
 induction n generalizing l q with
 |zero=>exact⟨l,0,rfl,h,by simp,rfl,Nat.le_refl _⟩
 |succ n ih=>
  obtain⟨h1,h2⟩:=qmz l h;obtain⟨L,p,e,d,v,s,b⟩:=ih (qgo l) (q+qfx l) h1;have hk:qfx l≤1:=by unfold qfx;split<;>omega
  refine⟨L,qfx l+p,by show qq6 n (qgo l) (q+qfx l)=_;rw[e,Nat.add_assoc],d,?_,by omega,by omega⟩;rw[Nat.pow_succ,←Nat.mul_assoc,v,Nat.mul_right_comm,qoa l h,Nat.mul_assoc,←Nat.pow_add]
end Go.Proofs.YtdeimnnpcfncpaaGreatDoor
end
