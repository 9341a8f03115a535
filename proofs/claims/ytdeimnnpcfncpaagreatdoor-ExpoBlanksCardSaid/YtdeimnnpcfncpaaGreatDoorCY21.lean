/- Parts of the proof: HF HG HH HI HJ. -/
import Derived.Test.YtdeimnnpcfncpaaGreatDoorCY20
import Derived.Test.YtdeimnnpcfncpaaGreatDoorCY18
set_option linter.unusedVariables false
set_option linter.unusedSimpArgs false
set_option maxRecDepth 100000
set_option maxHeartbeats 64000000
section
namespace Go.Proofs.YtdeimnnpcfncpaaGreatDoor
open Go Go.RowKit
theorem qbC.head {w:World} {D X E:Nat} {ng tr:Bool} (h:qbC w D X E ng tr): ∃nd:Nat,w.cell? ⟨D,800,none⟩=some (.int .i64 (nd:Int))∧1≤nd∧nd≤800:=by
 obtain⟨g,nd,h,h1,h2,_⟩:=h.ex;exact⟨nd,h.nd,h1,h2⟩
def ShR (X k:Nat) (tr:Bool) (X':Nat) (tr':Bool):Prop:= ∃Z,X=Z*2^k∧Cut Z X' tr tr'
theorem qca (B D X E k:Nat) (ng tr:Bool) (w:World) (h:qbC w D X E ng tr) (hE:E≤2500) (hk:1≤k) (hk2:k≤60) (hL:LcP w) (hB:B≤D):
 Calls Tryz.prog 300 #[.pointer (some ⟨D,0,none⟩),.int .i64 k] w fun e w'=>e= .returned (.tuple #[])∧(∃X' E' tr',qqE w' D X' E' ng tr'∧Cut (X*2^k) X' tr tr')∧Below B w w':=by
 obtain⟨nd,c1,n1,n2⟩:=h.head;have hc:=Lh (qm2 B D X E k ng tr w h hE hk hk2 hL hB);have u1:((nd:Int)==0)=false:=by rw[beq_eq_false_iff_ne];omega
 have u2:decide ((0:Int)<(k:Int))=true:=dT (by omega);have u2':decide (0<k)=true:=dT (by omega);have u3:decide ((60:Int)<(k:Int))=false:=dF (by omega);have u3':decide (60<k)=false:=dF (by omega);clear h hL hE;go_enter Tryz.func300,Tryz.ntmps300;go_wp2_with fail;go_loopg [1] 1 (fun gk s1 wx=>0<gk∧s1= .int .i64 (k:Int)∧wx=w)
 case atStart=>exact⟨by omega,rfl,rfl⟩
 case round=>
  obtain⟨_,rfl,hw⟩:=hrel;have hw':=hw.symm;clear hw;subst hw';go_wp2_with fail;refine hc.out.mono ?_;rintro e w' ⟨rfl,h⟩;have hh:=Lh h;clear h hc;go_wp2_with fail;go_end0;exact⟨rfl,hh.out⟩
theorem qeg (B D X E k:Nat) (ng tr:Bool) (w:World) (h:qbC w D X E ng tr) (hE0:1600≤E) (hE:E≤2500) (hk:1≤k) (hk2:k≤60) (hB:B≤D):
 Calls Tryz.prog 300 #[.pointer (some ⟨D,0,none⟩),.int .i64 (-(k:Int))] w fun e w'=>e= .returned (.tuple #[])∧(∃X' E' tr',qbC w' D X' E' ng tr'∧ShR X k tr X' tr')∧Below B w w':=by
 obtain⟨nd,c1,n1,n2⟩:=h.head;have hc:=Lh (qfo B D X E k ng tr w h hE0 hE hk hk2 hB);have u1:((nd:Int)==0)=false:=by rw[beq_eq_false_iff_ne];omega
 obtain⟨m,hm⟩: ∃m:Int,m= -(k:Int):=⟨_,rfl⟩;have u2:decide ((0:Int)<m)=false:=dF (by omega);have u4:decide (m<0)=true:=dT (by omega);have u3:decide (m< -60)=false:=dF (by omega);have u5: -m=(k:Int):=by omega
 have hm1: -60≤m:=by omega
 have hm2:m≤ -1:=by omega
 rw[←hm];clear h hE hE0 hm;go_enter Tryz.func300,Tryz.ntmps300;go_wp2_with fail;go_loopg [1] 1 (fun gk s1 wx=>0<gk∧s1= .int .i64 m∧wx=w)
 case atStart=>exact⟨by omega,rfl,rfl⟩
 case round=>
  obtain⟨_,rfl,hw⟩:=hrel;have hw':=hw.symm;clear hw;subst hw';go_wp2_with fail;refine hc.out.mono ?_;rintro e w' ⟨rfl,⟨X',E',tr',Z,h1,h2,h3⟩,h4⟩;have hh:=Lh (show(∃X' E' tr',qbC w' D X' E' ng tr'∧ShR X k tr X' tr')∧Below B w w' from⟨⟨X',E',tr',h1,Z,h2,h3⟩,h4⟩);clear h1 h2 h3 h4 hc;go_wp2_with fail;go_end0;exact⟨rfl,hh.out⟩
theorem qfF (B D X E k:Nat) (ng tr:Bool) (w:World) (h:qbC w D X E ng tr) (hE0:1650≤E) (hE:E≤2500) (hk:60<k) (hk2:k≤120) (hB:B≤D):
 Calls Tryz.prog 300 #[.pointer (some ⟨D,0,none⟩),.int .i64 (-(k:Int))] w fun e w'=>e= .returned (.tuple #[])∧(∃X1 tr1 X' E' tr',qbC w' D X' E' ng tr'∧ShR X 60 tr X1 tr1∧ShR X1 (k - 60) tr1 X' tr')∧Below B w w':=by
 obtain⟨nd,c1,n1,n2⟩:=h.head;have hc:=Lh (qfo B D X E 60 ng tr w h (by omega) hE (by decide) (by decide) hB);have u1:((nd:Int)==0)=false:=by rw[beq_eq_false_iff_ne];omega
 obtain⟨j,hj⟩: ∃j:Nat,j=k - 60:=⟨_,rfl⟩;obtain⟨m,hm⟩: ∃m:Int,m= -(k:Int):=⟨_,rfl⟩;obtain⟨m2,hm2⟩: ∃m2:Int,m2= -(j:Int):=⟨_,rfl⟩;have u2:decide ((0:Int)<m)=false:=dF (by omega);have u4:decide (m<0)=true:=dT (by omega);have u3:decide (m< -60)=true:=dT (by omega);have u6:m+60=m2:=by omega
 have u7:decide (m2< -60)=false:=dF (by omega);have u5: -m2=(j:Int):=by omega
 have hm1: -120≤m:=by omega
 have hm3:m≤ -61:=by omega
 have hm4: -60≤m2:=by omega
 have hm5:m2≤ -1:=by omega
 have hj1:1≤j:=by omega
 have hj2:j≤60:=by omega
 have hXE:=h.bd;rw[←hm];have hEh:=Lh (show 1650≤E∧E≤2500 from⟨hE0,hE⟩);have hjh:=Lh hj;clear h hE hE0 hm hm2 hj;replace hXE:=Lh hXE;go_enter Tryz.func300,Tryz.ntmps300;go_wp2_with fail;go_loopg [1] 3 (fun gk s1 wx=>(2≤gk∧s1= .int .i64 m∧wx=w)∨(1≤gk∧s1= .int .i64 m2∧Hid (Below B w wx)∧ ∃X1 E1 tr1,Hid (qbC wx D X1 E1 ng tr1∧ShR X 60 tr X1 tr1)))
 case atStart=>exact .inl ⟨by omega,rfl,rfl⟩
 case round=>
  rcases hrel with ⟨hg,rfl,hw⟩|⟨hg,rfl,hb,X1,E1,tr1,h1⟩
  ·have hw':=hw.symm;clear hw;subst hw';go_wp2_with fail;refine hc.out.mono ?_;rintro e w' ⟨rfl,⟨X',E',tr',Z,h1,h2,h3⟩,h4⟩;have hh:=Lh (show qbC w' D X' E' ng tr'∧ShR X 60 tr X' tr' from⟨h1,Z,h2,h3⟩);have hb:=Lh h4;clear h1 h2 h3 h4 hc;go_wp2_with fail;go_roundg 1
   case measure=>omega
   case rel=>exact .inr ⟨by omega,by go_num,hb,X',E',tr',hh⟩
  ·have hE1:1600≤E1∧E1≤2500:=by
    obtain⟨Z,e1,e2⟩:=h1.out.2;have b1:=h1.out.1.bd;have b2:=hXE.out;have b3:=hEh.out;have hle:=qd6 e2;constructor
    · -- X1 is at least a 2^61th of X
      apply Nat.le_of_not_lt;intro hlt
      have k1:X<10^E1*2^60*2:=by
       rcases e2 with ⟨e3,_⟩|⟨_,_,Q,f,e3,e4,e5⟩
       ·rw[e1,←e3];have:=Nat.mul_lt_mul_of_pos_right b1.2 (Nat.two_pow_pos 60);omega
       ·have q1:1≤Q:=Nat.le_trans (qdc 799) e4
        have q2:(Q+1)*10^f≤2*(Q*10^f):=by
         rw[←Nat.mul_assoc];exact Nat.mul_le_mul_right _ (by omega)
        rw[←e3] at q2;have q3:Z<2*10^E1:=by have:=b1.2;omega
        rw[e1];have:=Nat.mul_lt_mul_of_pos_right q3 (Nat.two_pow_pos 60);omega
      have k2:10^E1*10^20≤10^(E - 1):=by
       rw[←Nat.pow_add];exact Nat.pow_le_pow_right (by decide) (by omega)
      have:=b2.1;omega
    ·apply Nat.le_of_not_lt;intro hlt;have k1:X1≤X:=by rw[e1];exact Nat.le_trans hle (Nat.le_mul_of_pos_right _ (Nat.two_pow_pos 60))
     have k2:10^E≤10^(E1 - 1):=Nat.pow_le_pow_right (by decide) (by omega);have:=b2.2;have:=b1.1;omega
   have hc2:=Lh (qfo B D X1 E1 j ng tr1 wr h1.out.1 hE1.1 hE1.2 hj1 hj2 hB);clear hE1 hc;go_wp2_with fail;refine hc2.out.mono ?_;rintro e w' ⟨rfl,⟨X',E',tr',Z,h5,h2,h3⟩,h4⟩;have hh:=Lh (show(∃X1 tr1 X' E' tr',qbC w' D X' E' ng tr'∧ShR X 60 tr X1 tr1∧ShR X1 (k - 60) tr1 X' tr')∧Below B w w' from⟨⟨X1,tr1,X',E',tr',h5,h1.out.2,by rw[←hjh.out];exact⟨Z,h2,h3⟩⟩,hb.out.trans h4⟩);clear h5 h2 h3 h4 hc2;go_wp2_with fail;go_end0;exact⟨rfl,hh.out⟩
def upB (g:Nat→Nat) (nd p:Nat) (tr:Bool):Bool:=
 if nd≤p then false else if g p=53∧p+1=nd then (tr||(decide (0<p)&&decide ((g (p - 1) - 48)%2=1))) else decide (53≤g p)
theorem qgq (g:Nat→Nat) (nd i:Nat) (h:i<nd):ext g nd i=g i:=if_pos h
theorem qjW (g:Nat→Nat) (nd i:Nat) (h:nd≤i):ext g nd i=48:=if_neg (by omega)
theorem qe8 (a b:Nat) (h:a=b+1):U10 a=10*U10 b:=by subst h;unfold U10;rw[Nat.pow_succ,Nat.mul_comm]
theorem qsA (j m:Nat) (h:j≤m):10^j*10^(m - j)=U10 m:=by
 rw[qbr,qbr,qbu];congr 1;omega
theorem qdJ (g:Nat→Nat) (nd p:Nat) (hnd:nd≤p+2000) (hg:qdm g nd): ∃f,dec g nd (p+2000)=num (ext g nd) p*U10 2000+((ext g nd p - 48)*U10 1999+f)∧f<U10 1999∧(nd≤p+1→f=0)∧(p+1<nd→g (nd - 1)≠48→0<f):=by
 obtain⟨j,hj⟩: ∃j,j=max nd (p+1) - (p+1):=⟨_,rfl⟩;obtain⟨F,hF⟩: ∃F,F=num (fun i=>ext g nd (p+1+i)) j:=⟨_,rfl⟩;have e1:num (ext g nd) (p+1+j)=num (ext g nd) (p+1)*10^j+F:=by rw[hF];exact qfk _ _ _
 have hFl:F<10^j:=by rw[hF];exact qet j fun i _=>qbP hg (p+1+i+1) _ (by omega)
 have e2:num (ext g nd) (p+1+j)=num g nd*10^(p+1+j - nd):=by rw[←qhf];congr 1;omega
 have hj2:j≤1999:=by omega
 have e3:dec g nd (p+2000)=num (ext g nd) (p+1+j)*10^(1999 - j):=by
  rw[e2];unfold dec;rw[Nat.mul_assoc,←Nat.pow_add];generalize hq:p+2000 - nd=q;rw[show p+1+j - nd+(1999 - j)=q by omega]
 have e4:10^j*10^(1999 - j)=U10 1999:=qsA j 1999 hj2;have e5:num (ext g nd) (p+1)=10*num (ext g nd) p+(ext g nd p - 48):=rfl;have e6:U10 2000=10*U10 1999:=qe8 2000 1999 rfl;have hy:=p10 (1999 - j);generalize 10^(1999 - j)=y at*;generalize U10 1999=u at*;generalize U10 2000=v at*;refine⟨F*y,?_,?_,?_,?_⟩
 ·rw[e3,e1,e5,Nat.add_mul,Nat.mul_assoc _ (10^j),e4,e6,Nat.add_mul,Nat.add_assoc]
  congr 1
  rw[Nat.mul_assoc,Nat.mul_left_comm]
 ·rw[←e4];exact Nat.mul_lt_mul_of_pos_right hFl hy
 ·intro h;have:j=0:=by omega
  rw[hF,this];show 0*_=0;exact Nat.zero_mul _
 ·intro h h2;refine Nat.mul_pos ?_ hy;rw[hF];obtain⟨i,rfl⟩: ∃i,j=i+1:=⟨j - 1,by omega⟩;show 0<10*_+(ext g nd (p+1+i) - 48);have h3:p+1+i=nd - 1:=by omega
  rw[h3,qgq _ _ _ (by omega)];have:=hg (nd - 1) (by omega);omega
theorem qrk (g:Nat→Nat) (nd p:Nat) (tr:Bool) (h1:nd≤p+2000) (hg:qdm g nd) (hl:g (nd - 1)≠48):
 qfC (dec g nd (p+2000)) tr=num (ext g nd) p+(if upB g nd p tr then 1 else 0):=by
 obtain⟨f,e1,e2,e3,e4⟩:=qdJ g nd p h1 hg;have e6:U10 2000=10*U10 1999:=qe8 2000 1999 rfl;obtain⟨x,hx⟩: ∃x,x=ext g nd p - 48:=⟨_,rfl⟩;have hx9:x≤9:=by have:=qbP hg (p+1) p (by omega);omega
 rw[←hx] at e1;obtain⟨N,hN⟩: ∃N,N=num (ext g nd) p:=⟨_,rfl⟩;rw[←hN] at e1⊢;obtain⟨T,hT⟩: ∃T,T=U10 1999:=⟨_,rfl⟩;have hTp:0<T:=by rw[hT];exact qdc _
 rw[←hT] at e1 e2 e6;have hxT:x*T≤9*T:=Nat.mul_le_mul_right _ hx9
 have hq:dec g nd (p+2000)/U10 2000=N:=by
  rw[e1,e6,Nat.mul_comm,Nat.mul_add_div (by omega),Nat.div_eq_of_lt (by omega),Nat.add_zero]
 have hr:dec g nd (p+2000)%U10 2000=x*T+f:=by
  rw[e1,e6,Nat.mul_comm,Nat.mul_add_mod,Nat.mod_eq_of_lt (by omega)]
 unfold qfC;rw[hq,hr,e6];unfold upB
 by_cases c1:nd≤p
 ·have:x=0:=by rw[hx,qjW _ _ _ c1]
  subst this;have:=e3 (by omega);rw[if_pos c1,if_neg (by omega)];simp
 ·rw[if_neg c1];have hgp:ext g nd p=g p:=qgq _ _ _ (by omega);rw[hgp] at hx;have hgb:=hg p (by omega)
  by_cases c2:g p=53∧p+1=nd
  ·have hx5:x=5:=by omega
   have hf0:=e3 (by omega);subst hx5;rw[if_pos c2]
   have hpar:(N%2=1)↔(0<p∧(g (p - 1) - 48)%2=1):=by
    rcases Nat.eq_zero_or_pos p with h|h
    ·subst h;have:N=0:=hN;omega
    ·obtain⟨i,rfl⟩: ∃i,p=i+1:=⟨p - 1,by omega⟩;have:N=10*num (ext g nd) i+(ext g nd i - 48):=hN;rw[qgq _ _ _ (by omega)] at this;rw[Nat.add_sub_cancel];omega
   cases tr with
   |true=>rw[if_pos (.inr ⟨by omega,.inl rfl⟩)];simp
   |false=>
    by_cases c3:N%2=1
    ·rw[if_pos (.inr ⟨by omega,.inr c3⟩)];obtain⟨a,b⟩:=hpar.1 c3;rw[dT a,dT b];rfl
    ·rw[if_neg (by rintro(h|⟨_,h|h⟩);omega;cases h;exact c3 h)]
     have:(decide (0<p)&&decide ((g (p - 1) - 48)%2=1))=false:=by
      rw[Bool.eq_false_iff];intro h;rw[Bool.and_eq_true,decide_eq_true_eq,decide_eq_true_eq] at h;exact c3 (hpar.2 h)
     rw[this];rfl
  ·rw[if_neg c2]
   by_cases c4:53≤g p
   ·rw[dT c4];have h5:5*T≤x*T:=Nat.mul_le_mul_right _ (by omega)
    by_cases c5:g p=53
    ·have:=e4 (by omega) hl;rw[if_pos (.inl (by omega))];rfl
    ·have h6:6*T≤x*T:=Nat.mul_le_mul_right _ (by omega);rw[if_pos (.inl (by omega))];rfl
   ·rw[dF c4];have h4:x*T≤4*T:=Nat.mul_le_mul_right _ (by omega);rw[if_neg (by omega)];rfl
theorem qo3 (X:Nat) (tr:Bool) (h:X<U10 1999):qfC X tr=0:=by
 have e6:U10 2000=10*U10 1999:=qe8 2000 1999 rfl;unfold qfC;rw[Nat.mod_eq_of_lt (by omega),Nat.div_eq_of_lt (by omega),if_neg (by omega)]
theorem qqA (D:Nat) (g:Nat→Nat) (nd:Nat) (dp:Int) (ng tr:Bool) (m:Int) (w:World) (h:qaK w D g nd dp ng tr) (hm:m<0):
 Calls Tryz.prog 305 #[.pointer (some ⟨D,0,none⟩),.int .i64 m] w fun e w'=>e= .returned (.bool false)∧w'=w:=by
 have c1:=h.nd;have u1:decide (m<0)=true:=dT hm;clear h;go_enter Tryz.func305,Tryz.ntmps305;go_wp2_with fail;go_ret;exact⟨rfl,rfl⟩
theorem qpR (D:Nat) (g:Nat→Nat) (nd p:Nat) (dp:Int) (ng tr:Bool) (w:World) (h:qaK w D g nd dp ng tr) (hn:nd≤800) (hg:qdm g nd) (hp:p≤100):
 Calls Tryz.prog 305 #[.pointer (some ⟨D,0,none⟩),.int .i64 p] w fun e w'=>e= .returned (.bool (upB g nd p tr))∧w'=w:=by
 have c1:=h.nd;have c3:=h.tr;have hc:=Lh h.cell;obtain⟨b,hb⟩: ∃b,b=upB g nd p tr:=⟨_,rfl⟩;rw[←hb];unfold upB at hb
 by_cases k1:nd≤p
 ·rw[if_pos k1] at hb;subst hb;have u1:decide ((nd:Int)≤(p:Int))=true:=dT (by omega);have u1':decide (nd≤p)=true:=dT k1;clear h;go_enter Tryz.func305,Tryz.ntmps305;go_wp2_with fail;go_ret;exact⟨rfl,rfl⟩
 ·rw[if_neg k1] at hb;have u1:decide ((nd:Int)≤(p:Int))=false:=dF (by omega);have u1':decide (nd≤p)=false:=dF k1;have c2:=hc.out p (by omega);have hg1:=hg p (by omega)
  by_cases k2:g p=53
  ·by_cases k3:p+1=nd
   ·rw[if_pos ⟨k2,k3⟩] at hb;rw[k2] at c2;have u2:(((p:Int)+1)==(nd:Int))=true:=by rw[beq_iff_eq];omega
    have u2':(((p+1:Nat):Int)==(nd:Int))=true:=by rw[beq_iff_eq];omega
    cases tr with
    |true=>
     rw[Bool.true_or] at hb;subst hb;clear h hg1 k3;go_enter Tryz.func305,Tryz.ntmps305;go_wp2_with fail;go_ret;exact⟨rfl,rfl⟩
    |false=>
     rw[Bool.false_or] at hb
     by_cases k4:p=0
     ·subst k4;rw[dF (by decide),Bool.false_and] at hb;subst hb;clear h hg1 k3;go_enter Tryz.func305,Tryz.ntmps305;go_wp2_with fail;go_ret;exact⟨rfl,rfl⟩
     ·obtain⟨q,rfl⟩: ∃q,p=q+1:=⟨p - 1,by omega⟩;rw[dT (by omega),Bool.true_and,Nat.add_sub_cancel] at hb;have c4:=hc.out q (by omega);have hg2:=hg q (by omega);obtain⟨x,hx⟩: ∃x,g q=x+48:=⟨g q - 48,by omega⟩;rw[hx,Int.natCast_add] at c4;rw[hx,Nat.add_sub_cancel] at hb;have hx9:x≤9:=by omega
      obtain⟨y,hy⟩: ∃y,y=x%2:=⟨_,rfl⟩;rw[←hy] at hb;have e1:(x:Int)%2=(y:Int):=by omega
      have e2:((x:Int)).tmod 2=(y:Int):=by rw[Int.tmod_eq_emod_of_nonneg (by omega)];exact e1
      have u3:decide ((0:Int)<((q+1:Nat):Int))=true:=dT (by omega);clear h hg1 hg2 k3 hx k4;rcases(show y=0∨y=1 by omega)with rfl|rfl
      ·rw[dF (by decide)] at hb;subst hb;replace hy:=Lh hy;go_enter Tryz.func305,Tryz.ntmps305;go_wp2_with fail;go_ret;exact⟨rfl,rfl⟩
      ·rw[dT rfl] at hb;subst hb;replace hy:=Lh hy;go_enter Tryz.func305,Tryz.ntmps305;go_wp2_with fail;go_ret;exact⟨rfl,rfl⟩
   ·rw[if_neg (fun h=>k3 h.2),dT (by omega)] at hb;rw[k2] at c2;subst hb;have u2:(((p:Int)+1)==(nd:Int))=false:=by rw[beq_eq_false_iff_ne];omega
    have u2':(((p+1:Nat):Int)==(nd:Int))=false:=by rw[beq_eq_false_iff_ne];omega
    clear h hg1 k3;go_enter Tryz.func305,Tryz.ntmps305;go_wp2_with fail;go_ret;exact⟨rfl,rfl⟩
  ·rw[if_neg (fun h=>k2 h.1)] at hb;obtain⟨x,hx⟩: ∃x,x=g p:=⟨_,rfl⟩;rw[←hx] at c2 hb k2;have u2:((x:Int)==53)=false:=by rw[beq_eq_false_iff_ne];omega
   have u3:decide ((53:Int)≤(x:Int))=b:=by rw[hb];exact decide_eq_decide.2 (by omega)
   replace hb:=Lh hb;clear h hg1 k2 hx;go_enter Tryz.func305,Tryz.ntmps305;go_wp2_with fail;go_ret;exact⟨rfl,rfl⟩
theorem ql1 (g:Nat→Nat) (m k:Nat):num g m≤num g (m+k):=Nat.le_trans (Nat.le_mul_of_pos_right _ (p10 k)) (qa7 g m k)
theorem qrH (D:Nat) (g:Nat→Nat) (nd:Nat) (m:Int) (ng tr:Bool) (w:World) (h:qaK w D g nd m ng tr) (hm:m<0) (hm2: -100000≤m):
 Calls Tryz.prog 301 #[.pointer (some ⟨D,0,none⟩)] w fun e w'=>e= .returned (.int .u64 0)∧w'=w:=by
 have c1:=h.nd;have c2:=h.dp;have hs:=Lh (qqA D g nd m ng tr m w h hm);have u1:decide ((20:Int)<m)=false:=dF (by omega);have u2:decide ((0:Int)<m)=false:=dF (by omega);clear h;go_enter Tryz.func301,Tryz.ntmps301;go_upto_block 0 with (fail)
 go_wp2_with fail;go_loopg [3,4] 1 (fun gk s3 s4 wx=>0<gk∧s3= .int .i64 0∧s4= .int .u64 0∧wx=w)
 case atStart=>exact⟨by omega,rfl,rfl,rfl⟩
 case round=>
  obtain⟨_,rfl,rfl,hw⟩:=hrel;have hw':=hw.symm;clear hw;subst hw';go_wp2_with fail;go_loopg [3,4] 1 (fun gk s3 s4 wx=>0<gk∧s3= .int .i64 0∧s4= .int .u64 0∧wx=w)
  case atStart=>exact⟨by omega,rfl,rfl,rfl⟩
  case round=>
   obtain⟨_,rfl,rfl,hw⟩:=hrel;have hw':=hw.symm;clear hw;subst hw';go_wp2_with fail;refine hs.out.mono ?_;rintro e w' ⟨rfl,rfl⟩;go_wp2_with fail;go_ret;exact⟨rfl,rfl⟩
theorem qr4 (D:Nat) (g:Nat→Nat) (nd p:Nat) (ng tr:Bool) (w:World) (h:qaK w D g nd p ng tr) (hn8:nd≤800) (hg:qdm g nd) (hp:p≤20) (hX:num (ext g nd) p<9007199254740993):
 Calls Tryz.prog 301 #[.pointer (some ⟨D,0,none⟩)] w fun e w'=>e= .returned (.int .u64 ((num (ext g nd) p+(if upB g nd p tr then 1 else 0):Nat):Int))∧w'=w:=by
 have c1:=h.nd;have c2:=h.dp;have hc:=Lh h.cell;have hs':=qpR D g nd p p ng tr w h hn8 hg (by omega);obtain⟨b,hbb⟩: ∃b,b=upB g nd p tr:=⟨_,rfl⟩;rw[←hbb] at hs'⊢;have hs:=Lh hs';clear hbb hs';have u1:decide ((20:Int)<(p:Int))=false:=dF (by omega);have u1':decide (20<p)=false:=dF (by omega);obtain⟨c,hcd⟩: ∃c,c=ext g nd:=⟨_,rfl⟩;rw[←hcd] at hX⊢
 have hm:=Lh (fun i (hi:i≤p)=>show num c i<9007199254740993 by
  have:=ql1 c i (p - i);rw[show i+(p - i)=p by omega] at this
  omega)
 replace hcd:=Lh hcd;replace hX:=Lh hX;clear h;go_enter Tryz.func301,Tryz.ntmps301;go_upto_block 0 with (fail)
 go_wp2_with fail;go_loopg [3,4] (p+1) (fun gk s3 s4 wx=> ∃i n:Nat,p - i<gk∧i≤p∧i≤nd∧s3= .int .i64 (i:Int)∧s4= .int .u64 (n:Int)∧Hid (n=num c i)∧wx=w)
 case atStart=>exact⟨0,0,by omega,by omega,by omega,rfl,rfl,Lh rfl,rfl⟩
 case round=>
  obtain⟨i,n,hig,hip,hin,rfl,rfl,hN,hw⟩:=hrel;have hw':=hw.symm;clear hw;subst hw';have hnb:n<9007199254740993:=by rw[hN.out];exact hm.out i hip
  by_cases hr:i<p∧i<nd
  ·have v1:decide ((i:Int)<(p:Int))=true:=dT (by omega);have v1':decide (i<p)=true:=dT hr.1;have v2:decide ((i:Int)<(nd:Int))=true:=dT (by omega);have v2':decide (i<nd)=true:=dT hr.2;have c4:=hc.out i (by omega);have hg2:=hg i hr.2;obtain⟨x,hx⟩: ∃x,g i=x+48:=⟨g i - 48,by omega⟩;rw[hx,Int.natCast_add] at c4;have hx9:x≤9:=by omega
   have hN2:Hid (n*10+x=num c (i+1)):=Lh (by
    show _=10*num c i+(c i - 48)
    rw[hcd.out,qgq _ _ _ hr.2,hx,←hcd.out,←hN.out];omega)
   have hw1:IntKind.u64.wrap ((n:Int)*10)=(n:Int)*10:=qbA _ (by omega) (by omega);have hw2:IntKind.u64.wrap ((n:Int)*10+(x:Int))=(n:Int)*10+(x:Int):=qbA _ (by omega) (by omega);have hrp:=hr.1;have hrn:=hr.2;clear hg2 hx hr;go_wp2_with fail;go_roundg (gk - 1)
   case measure=>omega
   case rel=>exact⟨i+1,n*10+x,by omega,by omega,by omega,by go_num,by go_num,hN2,rfl⟩
  ·have hif:(decide ((i:Int)<(p:Int))=false∧decide (i<p)=false)∨(decide ((i:Int)<(p:Int))=true∧decide (i<p)=true∧decide ((i:Int)<(nd:Int))=false∧decide (i<nd)=false):=by
    by_cases h:i<p
    ·exact .inr ⟨dT (by omega),dT h,dF (by omega),dF (by omega)⟩
    ·exact .inl ⟨dF (by omega),dF h⟩
   have hpn:Hid (i=p∨nd≤i):=Lh (by omega);clear hr;rcases hif with ⟨v1,v2⟩|⟨v1,v2,v3,v4⟩
   all_goals
    go_wp2_with fail;clear v1 v2
    try clear v3 v4
    go_loopg [3,4] (p+1) (fun gk s3 s4 wx=> ∃j n:Nat,p - j<gk∧j≤p∧Hid (i≤j)∧s3= .int .i64 (j:Int)∧s4= .int .u64 (n:Int)∧Hid (n=num c j)∧wx=w)
    case atStart=>exact⟨i,n,by omega,by omega,Lh (Nat.le_refl _),rfl,rfl,hN,rfl⟩
    case round=>
     clear hN hig hin hnb;obtain⟨j,n,hjg,hjp,hij,rfl,rfl,hN,hw⟩:=hrel;have hw':=hw.symm;clear hw;subst hw';have hnb:n<9007199254740993:=by rw[hN.out];exact hm.out j hjp
     by_cases hr:j<p
     ·have v1:decide ((j:Int)<(p:Int))=true:=dT (by omega);have v1':decide (j<p)=true:=dT hr
      have hN2:Hid (n*10=num c (j+1)):=Lh (by
       show _=10*num c j+(c j - 48)
       rw[hcd.out,qjW _ _ _ (by have:=hpn.out;have:=hij.out;omega),←hcd.out,←hN.out];omega)
      have hw1:IntKind.u64.wrap ((n:Int)*10)=(n:Int)*10:=qbA _ (by omega) (by omega);have hij2:Hid (i≤j+1):=Lh (by have:=hij.out;omega);go_wp2_with fail;go_roundg (gk - 1)
      case measure=>omega
      case rel=>exact⟨j+1,n*10,by omega,by omega,hij2,by go_num,by go_num,hN2,rfl⟩
     ·obtain rfl:j=p:=by omega
      have v1:decide ((j:Int)<(j:Int))=false:=dF (by omega);have v1':decide (j<j)=false:=dF (by omega);clear hr;go_wp2_with fail;refine hs.out.mono ?_;rintro e w' ⟨rfl,rfl⟩;cases b
      ·go_wp2_with fail;go_ret;exact⟨by rw[←hN.out];simp,rfl⟩
      ·have hw3:IntKind.u64.wrap ((n:Int)+1)=(n:Int)+1:=qbA _ (by omega) (by omega);go_wp2_with fail;go_ret;exact⟨by rw[←hN.out];simp,rfl⟩
theorem qk0 (D X E:Nat) (ng tr:Bool) (w:World) (h:qqE w D X E ng tr) (hE:E≤2020) (hX:X<9007199254740992*U10 2000):
 Calls Tryz.prog 301 #[.pointer (some ⟨D,0,none⟩)] w fun e w'=>e= .returned (.int .u64 (qfC X tr:Int))∧w'=w:=by
 have hb:=h.toN.bd;obtain⟨g,nd,h1,h2,h3,h4,h5,h7,rfl,h6⟩:=h.ex
 by_cases hE2:2000≤E
 ·obtain⟨p,rfl⟩: ∃p,E=p+2000:=⟨E - 2000,by omega⟩;rw[show((p+2000:Nat):Int) - 2000=(p:Int) by omega] at h1;rw[qrk g nd p tr h7 h4 h6];refine qr4 D g nd p ng tr w h1 h3 h4 (by omega) ?_;obtain⟨f,e1,_,_,_⟩:=qdJ g nd p h7 h4;rw[e1] at hX;have:num (ext g nd) p*U10 2000<9007199254740992*U10 2000:=by omega
  have:=Nat.lt_of_mul_lt_mul_right this;omega
 ·have hb2:=hb.2;rw[qbr] at hb2;rw[qo3 _ tr (Nat.lt_of_lt_of_le hb2 (qa4 (by omega)))];exact qrH D g nd _ ng tr w h1 (by omega) (by omega)
end Go.Proofs.YtdeimnnpcfncpaaGreatDoor
end
section
namespace Go
def Exit.far (Z:Nat→Act→World→Prop) (Q:Exit→Act→World→Prop):Exit→Act→World→Prop
 | .goto l,a,w=>Z l a w
 |e,a,w=>Q e a w
theorem qfa {P:Program} {a:Act} {w:World} {Q:Exit→Act→World→Prop} {c:Code}
 (first: ∀Z:Nat→Act→World→Prop,(∀l rest a' w',findLabel c l=some rest→rest.wp P (Exit.far (fun _ _ _=>False) Q) a' w'→Z l a' w')→c.wp P (Exit.far Z Q) a w):(Code.scope c).wp P Q a w:=by
 intro b k cs;obtain⟨e,a₁,w₁,hq,harr⟩:=first (fun l a' w'=> ∃rest,findLabel c l=some rest∧rest.wp P (Exit.far (fun _ _ _=>False) Q) a' w') (fun l rest a' w' h1 h2=>⟨rest,h1,h2⟩) b (.inScope c::k) cs
 cases e with
 |normal=>exact⟨.normal,a₁,w₁,hq,.head step_scope (Steps.trans harr (.one step_inScope))⟩
 |exit id=>exact⟨.exit id,a₁,w₁,hq,fun k' hk=> .head step_scope (harr k' (by simp[exitTo,hk]))⟩
 |goto l'=>
  obtain⟨rest,hf,hr⟩:=hq;have hg:gotoIn l' (.inScope c::k)=some (.code rest:: .inScope c::k):=by simp[gotoIn,hf]
  obtain⟨e₂,a₂,w₂,hq₂,harr₂⟩:=hr b (.inScope c::k) cs
  have h2: ∃e a' w',Q e a' w'∧Arrives P (lone (b.at a₁ (.code rest:: .inScope c::k)) cs w₁) b k cs e a' w':=by
   cases e₂ with
   |normal=>exact⟨.normal,a₂,w₂,hq₂,Steps.trans harr₂ (.one step_inScope)⟩
   |exit id=>exact⟨.exit id,a₂,w₂,hq₂,fun k' hk=>harr₂ k' (by simp[exitTo,hk])⟩
   |goto l'=>exact hq₂.elim
   |ret=>exact⟨_,a₂,w₂,hq₂,harr₂⟩
   |panic ch=>exact⟨_,a₂,w₂,hq₂,harr₂⟩
   |outgrown=>exact⟨_,a₂,w₂,hq₂,harr₂⟩
  obtain⟨e₃,a₃,w₃,hq₃,harr₃⟩:=h2;exact⟨e₃,a₃,w₃,hq₃,.of_steps (.head step_scope (harr _ hg)) harr₃⟩
 |ret=>exact⟨_,a₁,w₁,hq,.of_steps (.one step_scope) harr⟩
 |panic ch=>exact⟨_,a₁,w₁,hq,.of_steps (.one step_scope) harr⟩
 |outgrown=>exact⟨_,a₁,w₁,hq,.of_steps (.one step_scope) harr⟩
theorem qbB {P:Program} {a:Act} {w:World} {Q:Exit→Act→World→Prop} {c r0 r1:Code} (h0:findLabel c 0=some r0) (h1:findLabel c 1=some r1)
 (first: ∀Z:Nat→Act→World→Prop,(∀a' w',r0.wp P (Exit.far (fun _ _ _=>False) Q) a' w'→Z 0 a' w')→(∀a' w',r1.wp P (Exit.far (fun _ _ _=>False) Q) a' w'→Z 1 a' w')→c.wp P (Exit.far Z Q) a w):(Code.scope c).wp P Q a w:=
 qfa fun Z hZ=>first Z (fun a' w' h=>hZ 0 r0 a' w' h0 h) (fun a' w' h=>hZ 1 r1 a' w' h1 h)
end Go
namespace Go.Proofs.YtdeimnnpcfncpaaGreatDoor
open Go Go.RowKit
theorem qpq (D:Nat) (g:Nat→Nat) (dp:Int) (ng tr:Bool) (w:World) (h:qaK w D g 0 dp ng tr) (hG:qeO w):
 Calls Tryz.prog 281 #[.pointer (some ⟨D,0,none⟩),.pointer (some ⟨11,0,none⟩)] w fun e w'=>(∃b,e= .returned (.tuple #[.int .u64 ((sgw ng:Nat):Int),.bool b]))∧Below w.heap.size w w':=by
 have c1:=h.nd;have c2:=h.ng;have i0:=hG.i0;have i1:=hG.i1;have i2:=hG.i2;clear h hG;go_enter Tryz.func281,Tryz.ntmps281;go_wp2_with fail;refine qbB rfl rfl ?_;intro Z h0' h1';have h0:=Lh h0';clear h0' h1';go_wp2_with fail;go_step3;refine h0.out _ _ ?_;clear h0;go_upto_region 43 with (fail)
 go_quiet (fail);cases ng
 ·go_wp2_with fail;simp only[Exit.far];go_ret2;exact⟨⟨_,rfl⟩,by repeat (first|exact Below.refl _ _|refine qaf ?_ _)⟩
 ·go_upto_region 45 with (fail)
  go_quiet (fail);go_wp2_with fail;simp only[Exit.far];go_ret2;exact⟨⟨_,rfl⟩,by repeat (first|exact Below.refl _ _|refine qaf ?_ _)⟩
theorem qlA (D:Nat) (g:Nat→Nat) (nd:Nat) (dp:Int) (ng tr:Bool) (w:World) (h:qaK w D g nd dp ng tr) (hn:1≤nd) (hp:dp< -330) (hG:qeO w):
 Calls Tryz.prog 281 #[.pointer (some ⟨D,0,none⟩),.pointer (some ⟨11,0,none⟩)] w fun e w'=>(∃b,e= .returned (.tuple #[.int .u64 ((sgw ng:Nat):Int),.bool b]))∧Below w.heap.size w w':=by
 have c1:=h.nd;have c2:=h.ng;have c3:=h.dp;have i0:=hG.i0;have i1:=hG.i1;have i2:=hG.i2;have u1:((nd:Int)==0)=false:=by rw[beq_eq_false_iff_ne];omega
 have u2:decide ((310:Int)<dp)=false:=dF (by omega);have u3:decide (dp< -330)=true:=dT hp;clear h hG;go_enter Tryz.func281,Tryz.ntmps281;go_wp2_with fail;refine qbB rfl rfl ?_;intro Z h0' h1';have h0:=Lh h0';clear h0' h1';go_wp2_with fail;go_step3;refine h0.out _ _ ?_;clear h0;go_upto_region 43 with (fail)
 go_quiet (fail);cases ng
 ·go_wp2_with fail;simp only[Exit.far];go_ret2;exact⟨⟨_,rfl⟩,by repeat (first|exact Below.refl _ _|refine qaf ?_ _)⟩
 ·go_upto_region 45 with (fail)
  go_quiet (fail);go_wp2_with fail;simp only[Exit.far];go_ret2;exact⟨⟨_,rfl⟩,by repeat (first|exact Below.refl _ _|refine qaf ?_ _)⟩
theorem qse (D:Nat) (g:Nat→Nat) (nd:Nat) (dp:Int) (ng tr:Bool) (w:World) (h:qaK w D g nd dp ng tr) (hn:1≤nd) (hp:310<dp) (hG:qeO w):
 Calls Tryz.prog 281 #[.pointer (some ⟨D,0,none⟩),.pointer (some ⟨11,0,none⟩)] w fun e w'=>(∃b,e= .returned (.tuple #[.int .u64 ((sgw ng+INF:Nat):Int),.bool b]))∧Below w.heap.size w w':=by
 have c1:=h.nd;have c2:=h.ng;have c3:=h.dp;have i0:=hG.i0;have i1:=hG.i1;have i2:=hG.i2;have u1:((nd:Int)==0)=false:=by rw[beq_eq_false_iff_ne];omega
 have u2:decide ((310:Int)<dp)=true:=dT hp;clear h hG;go_enter Tryz.func281,Tryz.ntmps281;go_wp2_with fail;refine qbB rfl rfl ?_;intro Z h0' h1';have h1:=Lh h1';clear h0' h1';go_wp2_with fail;go_step3;refine h1.out _ _ ?_;clear h1;go_upto_region 40 with (fail)
 go_quiet (fail);go_wp2_with fail;go_step3;go_upto_region 43 with (fail)
 go_quiet (fail);cases ng
 ·go_wp2_with fail;simp only[Exit.far];go_ret2;exact⟨⟨_,rfl⟩,by repeat (first|exact Below.refl _ _|refine qaf ?_ _)⟩
 ·go_upto_region 45 with (fail)
  go_quiet (fail);go_wp2_with fail;simp only[Exit.far];go_ret2;exact⟨⟨_,rfl⟩,by repeat (first|exact Below.refl _ _|refine qaf ?_ _)⟩
end Go.Proofs.YtdeimnnpcfncpaaGreatDoor
end
section
namespace Go.Proofs.YtdeimnnpcfncpaaGreatDoor
open Go Go.RowKit
theorem qbC.dp {w:World} {D X E:Nat} {ng tr:Bool} (h:qbC w D X E ng tr):w.cell? ⟨D,801,none⟩=some (.int .i64 ((E:Int) - 2000)):=by
 obtain⟨g,nd,h,_⟩:=h.ex;exact h.dp
theorem qbC.ng {w:World} {D X E:Nat} {ng tr:Bool} (h:qbC w D X E ng tr):w.cell? ⟨D,802,none⟩=some (.bool ng):=by
 obtain⟨g,nd,h,_⟩:=h.ex;exact h.ng
theorem qbC.first {w:World} {D X:Nat} {ng tr:Bool} (h:qbC w D X 2000 ng tr): ∃x:Nat,w.cell? ⟨D,0,none⟩=some (.int .u8 (x:Int))∧(x<53→X<5*U10 1999)∧(53≤x→5*U10 1999≤X):=by
 obtain⟨g,nd,hb,h1,h2,h3,h4,h6,rfl⟩:=h.ex;refine⟨g 0,hb.cell 0 (by decide),?_⟩;obtain⟨f,e1,e2,_⟩:=qdJ g nd 0 (by omega) h3;rw[show 0+2000=2000 from rfl,show num (ext g nd) 0=0 from rfl,Nat.zero_mul,Nat.zero_add,qgq _ _ _ (by omega)] at e1;rw[e1];have:=h3 0 (by omega);constructor
 ·intro h;have:(g 0 - 48)*U10 1999≤4*U10 1999:=Nat.mul_le_mul_right _ (by omega);omega
 ·intro h;have:5*U10 1999≤(g 0 - 48)*U10 1999:=Nat.mul_le_mul_right _ (by omega);omega
theorem qaH (n:Int):bits .and .i64 n 2047=n%2048:=by
 have h63:(BitVec.ofInt 64 2047).toNat=2^11 - 1:=by decide
 have key:(BitVec.ofInt 64 n &&& BitVec.ofInt 64 2047).toNat=(n%((2^64:Nat):Int)).toNat%2^11:=by
  rw[BitVec.toNat_and,BitVec.toNat_ofInt,h63,Nat.and_two_pow_sub_one_eq_mod]
 show IntKind.i64.wrap ((BitVec.ofInt 64 n &&& BitVec.ofInt 64 2047).toNat:Nat)=n%2048;rw[key,IntKind.wrap_i64];omega
theorem qbC.Ebd {w:World} {D X E:Nat} {ng tr:Bool} (h:qbC w D X E ng tr):U10 (E - 1)≤X∧X<U10 E:=h.bd
theorem qcr {a b:Nat} (h:U10 a<U10 b):a<b:=by
 apply Nat.lt_of_not_le;intro hle;have:=qa4 hle;omega
structure Ph1 (X0 q X E:Nat) (tr:Bool):Prop where
 inv:Inv X0 0 q X tr 0
 qb:q≤1034
 eb:1670≤E∧E≤2310
 alt:(q=0∧U10 1669≤X0)∨(U10 1999≤X∧U10 2000≤X0)
theorem qmg {X0 q X E X' E' d:Nat} {tr tr':Bool} (H:Ph1 X0 q X E tr) (hX0:X0<U10 2310) (hd:E=2000+d) (hd1:1≤d) (h1:U10 (E - 1)≤X∧X<U10 E) (h2:U10 (E' - 1)≤X'∧X'<U10 E') (hs:ShR X (nsh d) tr X' tr'):Ph1 X0 (q+nsh d) X' E' tr'∧X'<X:=by
 obtain⟨Z,hZ,hc⟩:=hs;obtain⟨n1,n2,n3⟩:=qie d;have hX:U10 (1999+d)≤X:=by rw[show 1999+d=E - 1 by omega];exact h1.1
 obtain⟨a1,a2⟩:=ql4 hX (n3 hd1) n1 hZ hc;have hi:=qcC (lo':=0) H.inv hZ hc (by omega)
 have hX0':U10 2000≤X0:=by
  rcases H.alt with ⟨h,_⟩|⟨_,h⟩
  ·have h3:=H.inv.le;rw[h] at h3;have h4:=Nat.le_of_mul_le_mul_right h3 (qfT 0);have h5:U10 2000≤U10 (1999+d):=qa4 (by omega);omega
  ·exact h
 refine⟨⟨hi,qqw hi.le a1 hX0,?_,.inr ⟨a1,hX0'⟩⟩,a2⟩;have b1:U10 1999<U10 E':=Nat.lt_of_le_of_lt a1 h2.2;have b2:U10 (E' - 1)<U10 E:=Nat.lt_of_le_of_lt h2.1 (Nat.lt_trans a2 h1.2);have b3:=qcr b1;have b4:=qcr b2;have:=H.eb;omega
structure Ph2 (X0 p q X E:Nat) (tr:Bool):Prop where
 inv:Inv X0 p q X tr p
 qb:q≤1034
 pb:p≤1099
 eb:1670≤E∧E≤2000
 alt:(q=0∧U10 1669≤X0)∨U10 2000≤X0
theorem qkx {X0 q X E:Nat} {tr:Bool} (H:Ph1 X0 q X E tr) (hE:E≤2000):Ph2 X0 0 q X E tr:=
 ⟨H.inv,H.qb,by decide,⟨H.eb.1,hE⟩,H.alt.elim .inl fun h=> .inr h.2⟩
theorem qm4 {X0 p q X E X' E' n:Nat} {tr tr':Bool} (H:Ph2 X0 p q X E tr) (h1:U10 (E - 1)≤X∧X<U10 E) (h2:U10 (E' - 1)≤X'∧X'<U10 E') (hn1:1≤n) (hn:X*2^n<U10 2000) (hc:Cut (X*2^n) X' tr tr'):Ph2 X0 (p+n) q X' E' tr'∧X<X'∧X'<U10 2000:=by
 have hXp:0<X:=Nat.lt_of_lt_of_le (qdc _) h1.1;have a1:=qm0 hXp hn1 hc;have a2:X'<U10 2000:=Nat.lt_of_le_of_lt (qd6 hc) hn;refine⟨⟨qhK H.inv hc,H.qb,qpa H.inv H.pb H.qb hn H.alt,?_,H.alt⟩,a1,a2⟩;have b1:=qcr (Nat.lt_of_le_of_lt h2.1 a2);have b2:U10 (E - 1)<U10 E':=Nat.lt_of_le_of_lt h1.1 (Nat.lt_trans a1 h2.2);have b3:=qcr b2;have:=H.eb;omega
theorem qrt {X E d:Nat} (hd:E+d=2000) (h1:X<U10 E) (h:1≤d∨X<5*U10 1999):X*2^nsh d<U10 2000:=by
 by_cases hd1:1≤d
 ·obtain⟨_,_,n3⟩:=qie d;have h2:X*2^nsh d<U10 E*2^nsh d:=Nat.mul_lt_mul_of_pos_right h1 (Nat.two_pow_pos _);have h3:U10 E*2^nsh d≤U10 E*10^d:=Nat.mul_le_mul_left _ (n3 hd1);rw[←qcO,hd] at h3;omega
 ·have:d=0:=by omega
  subst this;have h5:=h.resolve_left hd1;rw[qlZ,qgM 2000 1999 rfl];omega
structure Ph3 (X0 p q X:Nat) (tr:Bool) (e1:Nat):Prop where
 inv: ∃lo,Inv X0 p q X tr lo∧lo≤1046
 qb:q≤1200
 ee:p+53+e1=q+1075
 e0:1≤e1
 xb:X<U10 2000
 half:1<e1→5*U10 1999≤X
theorem qme {X0 p q X E:Nat} {tr:Bool} (H:Ph2 X0 p q X E tr) (hx:X<U10 2000) (hh:5*U10 1999≤X) (hp:p≤q+1021):Ph3 X0 p q X tr (q+1022 - p):=by
 have hq:=H.qb;refine⟨⟨p,H.inv,?_⟩,by omega,by omega,by omega,hx,fun _=>hh⟩;rcases H.alt with ⟨h,_⟩|h
 ·omega
 ·have:=qoi H.inv H.pb H.qb hx h;omega
theorem qsQ {X0 p q X E:Nat} {tr:Bool} (H:Ph2 X0 p q X E tr) (hx:X<U10 2000) (hp:q+1022≤p):q=0:=by
 rcases H.alt with ⟨h,_⟩|h
 ·exact h
 ·have:=qoi H.inv H.pb H.qb hx h;omega
theorem qlq {X k X':Nat} {tr tr':Bool} (h:ShR X k tr X' tr'):X'≤X:=by
 obtain⟨Z,hZ,hc⟩:=h;rw[hZ];exact Nat.le_trans (qd6 hc) (Nat.le_mul_of_pos_right _ (Nat.two_pow_pos k))
theorem qpK {X0 p X E n X':Nat} {tr tr':Bool} (H:Ph2 X0 p 0 X E tr) (hx:X<U10 2000) (hn:p=n+1021) (hs:ShR X n tr X' tr'):Ph3 X0 p n X' tr' 1:=by
 have hp:=H.pb;have hle:=qlq hs;obtain⟨Z,hZ,hc⟩:=hs;have hi:=qcC (lo':=1021) H.inv hZ hc (by omega);rw[Nat.zero_add] at hi;exact⟨⟨1021,hi,by decide⟩,by omega,by omega,by decide,by omega,fun h=>by omega⟩
theorem qmM {X0 p X E n X1 X':Nat} {tr tr1 tr':Bool} (H:Ph2 X0 p 0 X E tr) (hx:X<U10 2000) (hn:p=n+1021) (hn6:60<n) (hs:ShR X 60 tr X1 tr1) (hs2:ShR X1 (n - 60) tr1 X' tr'):Ph3 X0 p n X' tr' 1:=by
 have hp:=H.pb;have hle:=qlq hs;have hle2:=qlq hs2;obtain⟨Z,hZ,hc⟩:=hs;obtain⟨Z2,hZ2,hc2⟩:=hs2;have hi:=qcC (lo':=p - 60) H.inv hZ hc (by omega);have hi2:=qcC (lo':=1021) hi hZ2 hc2 (by omega);rw[show 0+60+(n - 60)=n by omega] at hi2;exact⟨⟨1021,hi2,by decide⟩,by omega,by omega,by decide,by omega,fun h=>by omega⟩
theorem qg8 {X0 p q X e1:Nat} {tr:Bool} (H:Ph3 X0 p q X tr e1) (h:2047≤e1):qbm (X0*U2 1075) (U10 2000) INF:=by
 obtain⟨lo,hi,_⟩:=H.inv;have:=H.ee;exact qrc hi.le (H.half (by omega)) (by omega)
theorem qr9 {X:Nat} {tr:Bool} (h:X<9007199254740992*U10 2000):qfC X tr≤9007199254740992:=by
 have h1:X/U10 2000<9007199254740992:=(Nat.div_lt_iff_lt_mul (qdc _)).2 h;unfold qfC
 split<;>omega
theorem qrZ {X:Nat} {tr:Bool} (h:4503599627370496*U10 2000≤X):4503599627370496≤qfC X tr:=by
 have h1:4503599627370496≤X/U10 2000:=(Nat.le_div_iff_mul_le (qdc _)).2 h;unfold qfC
 split<;>omega
theorem qgQ {X0 p q X X' e1:Nat} {tr tr':Bool} (H:Ph3 X0 p q X tr e1) (he:e1≤2046) (hc:Cut (X*2^53) X' tr tr'):
 X'<9007199254740992*U10 2000∧qbm (X0*U2 1075) (U10 2000) ((e1 - 1)*4503599627370496+qfC X' tr')∧qfC X' tr'≤9007199254740992∧(1<e1→4503599627370496≤qfC X' tr'):=by
 obtain⟨lo,hi,hlo⟩:=H.inv
 have hx:X'<9007199254740992*U10 2000:=by
  refine Nat.lt_of_le_of_lt (qd6 hc) ?_;rw[Nat.mul_comm,show(2:Nat)^53=9007199254740992 from rfl];exact Nat.mul_lt_mul_of_pos_left H.xb (by decide)
 have hl:1<e1→4503599627370496*U10 2000≤X':=fun h=>qoV (H.half h) hc
 have hq:=H.qb;exact⟨hx,qma (qhK hi hc) (by omega) (by omega) H.ee H.e0 he hx hl,qr9 hx,fun h=>qrZ (hl h)⟩
end Go.Proofs.YtdeimnnpcfncpaaGreatDoor
end
