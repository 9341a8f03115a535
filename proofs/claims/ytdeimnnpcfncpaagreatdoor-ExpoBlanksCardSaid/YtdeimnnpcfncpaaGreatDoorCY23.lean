/- Parts of the proof: A1 GD. -/
import Derived.Test.YtdeimnnpcfncpaaGreatDoorCY22
set_option linter.unusedVariables false
set_option linter.unusedSimpArgs false
set_option maxRecDepth 100000
set_option maxHeartbeats 64000000
section
namespace Go.Proofs.YtdeimnnpcfncpaaGreatDoor.X
open Go Go.RowKit
def ltr (o c:UInt8):Bool:=(decide (97≤c.toNat)&&decide (c.toNat≤122))||(decide (65≤c.toNat)&&decide (c.toNat≤90))||c==95||c==o
theorem qqd (o c:UInt8):ltr o c=((decide (97≤(c.toNat:Int))&&decide ((c.toNat:Int)≤122))||(decide (65≤(c.toNat:Int))&&decide ((c.toNat:Int)≤90))||((c.toNat:Int)==95)||((c.toNat:Int)==(o.toNat:Int))):=by
 unfold ltr
 have e1:(c==95)=((c.toNat:Int)==95):=by
  rw[Bool.eq_iff_iff,beq_iff_eq,beq_iff_eq];exact⟨fun h=>by rw[h];rfl,fun h=>UInt8.toNat_inj.1 (by show c.toNat=95;omega)⟩
 have e2:(c==o)=((c.toNat:Int)==(o.toNat:Int)):=by
  rw[Bool.eq_iff_iff,beq_iff_eq,beq_iff_eq];exact⟨fun h=>by rw[h],fun h=>UInt8.toNat_inj.1 (by omega)⟩
 rw[e1,e2]
 congr 2
 ·congr 1
  ·congr 1<;>(rw[decide_eq_decide];omega)
  ·congr 1<;>(rw[decide_eq_decide];omega)
def nmC (o:UInt8) (l:List UInt8):Bool:=l.all fun c=>ltr o c||isD c
def qan (o:UInt8) (l:List UInt8):Bool:=decide (1≤l.length)&&decide (l.length≤128)&&(ltr o (l.getD 0 0)&&nmC o (l.drop 1))
theorem qp7 {o:UInt8} {l:List UInt8} {i:Nat} (hi:i<l.length):nmC o (l.drop i)=((ltr o (l.getD i 0)||isD (l.getD i 0))&&nmC o (l.drop (i+1))):=by
 rw[qas l i hi];rfl
theorem qgp (s:ByteArray) (hs:s.size≤281474976710656) (o:UInt8) (w:World):Calls Tryz.prog 117 #[.string s,.int .u8 (o.toNat:Int)] w fun e w'=>e= .returned (.bool (qan o s.data.toList))∧w=w':=by
 obtain⟨l,hl⟩: ∃l,Hid (l=s.data.toList):=⟨_,Lh rfl⟩;have hlen:Hid (l.length=s.size):=Lh (by rw[hl.out];exact qau s);have hbt:Hid (∀i,bt s i=l.getD i 0):=Lh (fun i=>by unfold bt;rw[hl.out]);rw[←hl.out]
 by_cases h1:s.size<1
 ·have hF:Hid (qan o l=false):=Lh (by unfold qan;rw[hlen.out,dF (show¬1≤s.size by omega)];rfl);have u1:decide ((s.size:Int)<1)=true:=dT (by omega);have u2:decide (s.size<1)=true:=dT h1;go_enter Tryz.func117,Tryz.ntmps117;go_wp2_with fail;go_ret;exact⟨by rw[hF.out];rfl,rfl⟩
 ·have u1:decide ((s.size:Int)<1)=false:=dF (by omega);have u2:decide (s.size<1)=false:=dF h1
  by_cases h2:128<s.size
  ·have hF:Hid (qan o l=false):=Lh (by unfold qan;rw[hlen.out,dF (show¬s.size≤128 by omega),Bool.and_false];rfl);have u3:decide ((128:Int)<(s.size:Int))=true:=dT (by omega);have u4:decide (128<s.size)=true:=dT h2;go_enter Tryz.func117,Tryz.ntmps117;go_wp2_with fail;go_ret;exact⟨by rw[hF.out];rfl,rfl⟩
  ·have u3:decide ((128:Int)<(s.size:Int))=false:=dF (by omega);have u4:decide (128<s.size)=false:=dF h2
   have hF:Hid (qan o l=(ltr o (l.getD 0 0)&&nmC o (l.drop 1))):=Lh (by
    unfold qan;rw[hlen.out,dT (show 1≤s.size by omega),dT (show s.size≤128 by omega)];rfl)
   obtain⟨N,hN⟩: ∃N,Hid (N=qan o l):=⟨_,Lh rfl⟩;rw[←hN.out] at hF⊢;go_enter Tryz.func117,Tryz.ntmps117;go_wp2_with fail;go_loopg [18] (s.size+1) (fun gk s18 wx=> ∃i:Nat,i≤s.size∧s.size - i<gk∧s18= .int .i64 (i:Int)∧Hid (0<i→N=nmC o (l.drop i))∧w=wx)
   case atStart=>exact⟨0,by omega,by omega,rfl,Lh (fun h=>by omega),rfl⟩
   case round=>
    obtain⟨i,hi,hgk,rfl,hI,rfl⟩:=hrel
    by_cases hlt:i<s.size
    ·have u5:decide ((i:Int)<(s.size:Int))=true:=dT (by omega);have u6:decide (i<s.size)=true:=dT hlt;obtain⟨c,hc,hB⟩:=qdd s i hlt;have hc2:c=l.getD i 0:=by rw[←hbt.out];exact hc.out.symm
     have hst:=qp7 (o:=o) (l:=l) (i:=i) (by rw[hlen.out];exact hlt);rw[←hc2] at hst;have h0c:Hid (i=0→l.getD 0 0=c):=Lh (fun h=>by rw[hc2,h]);replace hst:=Lh hst;clear hc hc2;go_upto_region 7 with (fail)
     go_cut [6,7] (fun s6 s7 wx=>s6= .int .u8 (c.toNat:Int)∧s7= .bool (ltr o c)∧w=wx)
     case first=>
      go_wp2_with fail
      all_goals go_meet
      all_goals clear hst h0c hI hN hF hbt hlen hl hB hgk
      all_goals refine⟨by first|rfl|(congr 1;omega),?_,rfl⟩
      all_goals rw[qqd]
      all_goals congr 1
      all_goals grind
     case rest=>
      obtain⟨rfl,rfl,rfl⟩:=hcut;have hIs:=hI
      cases hb:ltr o c with
      |true=>
       have hI2:Hid (0<i+1→N=nmC o (l.drop (i+1))):=Lh (fun _=>by
        by_cases h0:i=0
        ·rw[hF.out,h0c.out h0,hb,h0];rfl
        ·rw[hI.out (by omega),hst.out,hb];rfl)
       clear hb hst h0c hI hIs;go_wp2_with fail;go_roundg (gk - 1)
       case measure=>omega
       case rel=>exact⟨i+1,by omega,by omega,by go_num,hI2,rfl⟩
      |false=>
       by_cases h0:i=0
       ·have hN0:Hid (N=false):=Lh (by rw[hF.out,h0c.out h0,hb];rfl);have u7:((i:Int)==0)=true:=by rw[h0];rfl
        clear hb hst h0c hI hIs hF h0;go_wp2_with fail;go_ret;exact⟨by rw[hN0.out];rfl,rfl⟩
       ·have u7:((i:Int)==0)=false:=beq_eq_false_iff_ne.2 (by omega)
        cases hd:isD c with
        |true=>
         have hcd:=(qaB c).1 hd;have v1:decide ((c.toNat:Int)<48)=false:=dF (by omega);have v2:decide ((57:Int)<(c.toNat:Int))=false:=dF (by omega);have v1':decide (c.toNat<48)=false:=dF (by omega);have v2':decide (57<c.toNat)=false:=dF (by omega)
         have hI2:Hid (0<i+1→N=nmC o (l.drop (i+1))):=Lh (fun _=>by
          rw[hI.out (by omega),hst.out,hb,hd];rfl)
         clear hb hst h0c hI hIs hd hcd h0;go_wp2_with fail;go_roundg (gk - 1)
         case measure=>omega
         case rel=>exact⟨i+1,by omega,by omega,by go_num,hI2,rfl⟩
        |false=>
         have hcd: ¬(48≤c.toNat∧c.toNat≤57):=fun h=>by rw[(qaB c).2 h] at hd;cases hd
         have hN0:Hid (N=false):=Lh (by rw[hI.out (by omega),hst.out,hb,hd];rfl);clear hb hst h0c hI hIs hd h0 hF
         by_cases h48:c.toNat<48
         ·have v1:decide ((c.toNat:Int)<48)=true:=dT (by omega);have v1':decide (c.toNat<48)=true:=dT h48;go_wp2_with fail;go_ret;exact⟨by rw[hN0.out];rfl,rfl⟩
         ·have v1:decide ((c.toNat:Int)<48)=false:=dF (by omega);have v2:decide ((57:Int)<(c.toNat:Int))=true:=dT (by omega);have v1':decide (c.toNat<48)=false:=dF h48;have v2':decide (57<c.toNat)=true:=dT (by omega);go_wp2_with fail;go_ret;exact⟨by rw[hN0.out];rfl,rfl⟩
    ·obtain rfl:i=s.size:=by omega
     have u5:decide ((s.size:Int)<(s.size:Int))=false:=dF (by omega);have u6:decide (s.size<s.size)=false:=dF (by omega)
     have hN1:Hid (N=true):=Lh (by
      rw[hI.out (by omega),List.drop_of_length_le (by rw[hlen.out];exact Nat.le_refl _)];rfl)
     clear hI hF;go_wp2_with fail;go_ret;exact⟨by rw[hN1.out];rfl,rfl⟩
theorem qhM (s:ByteArray) (hs:s.size≤281474976710656) (w:World):Calls Tryz.prog 108 #[.string s] w fun e w'=>e= .returned (.bool (qan 95 s.data.toList))∧w=w':=by
 have c:=qgp s hs 95 w;rw[show(((95:UInt8).toNat:Int))=95 from rfl] at c;go_enter Tryz.func108,Tryz.ntmps108;go_wp2_with fail;refine c.mono ?_;rintro x w1 ⟨rfl,rfl⟩;go_wp2_with fail;go_ret;exact⟨rfl,rfl⟩
theorem qch (s:ByteArray) (hs:s.size≤281474976710656) (w:World):Calls Tryz.prog 60 #[.string s] w fun e w'=>e= .returned (.bool (qan 58 s.data.toList))∧w=w':=by
 have c:=qgp s hs 58 w;rw[show(((58:UInt8).toNat:Int))=58 from rfl] at c;go_enter Tryz.func60,Tryz.ntmps60;go_wp2_with fail;refine c.mono ?_;rintro x w1 ⟨rfl,rfl⟩;go_wp2_with fail;go_ret;exact⟨rfl,rfl⟩
def qbi (l:List UInt8):Bool:=decide (l.length≤1024)&&((L.ck ⟨l.toArray⟩).2==0)
theorem qqM (s:ByteArray):(⟨s.data.toList.toArray⟩:ByteArray)=s:=qbn (by simp)
theorem qex (s:ByteArray) (hs:s.size≤281474976710656) (w:World):Calls Tryz.prog 109 #[.string s] w fun e w'=>e= .returned (.bool (qbi s.data.toList))∧w=w':=by
 have hlen:=qau s
 by_cases h:s.size≤1024
 ·have u1:decide ((s.size:Int)≤1024)=true:=dT (by omega);have u2:decide (s.size≤1024)=true:=dT h;have c:=L.valid_any s (by omega) w;have hF:Hid (qbi s.data.toList=((L.ck s).2==0)):=Lh (by unfold qbi;rw[hlen,u2,qqM];rfl);obtain⟨b,hb⟩: ∃b,((L.ck s).2==0)=b:=⟨_,rfl⟩;rw[hb] at c hF;clear hb hlen;go_enter Tryz.func109,Tryz.ntmps109;go_wp2_with fail;refine c.mono ?_;rintro x w1 ⟨rfl,rfl⟩;go_wp2_with fail;go_ret;exact⟨by rw[hF.out];rfl,rfl⟩
 ·have u1:decide ((s.size:Int)≤1024)=false:=dF (by omega);have u2:decide (s.size≤1024)=false:=dF h;have hF:Hid (qbi s.data.toList=false):=Lh (by unfold qbi;rw[hlen,u2];rfl);clear hlen;go_enter Tryz.func109,Tryz.ntmps109;go_wp2_with fail;go_ret;exact⟨by rw[hF.out];rfl,rfl⟩
end Go.Proofs.YtdeimnnpcfncpaaGreatDoor.X
end
section
namespace Go.Proofs.YtdeimnnpcfncpaaGreatDoor
open Go Go.RowKit
structure qnV (m:MS) (V:Nat):Prop where
 lo:m.mant*10^(m.nd - 19)≤V
 hi:V<(m.mant+1)*10^(m.nd - 19)
 ex:m.trunc=false→V=m.mant*10^(m.nd - 19)
 z:m.nd=0→m.mant=0
 p:0<m.nd→0<m.mant
 n:m.trunc=true→19<m.nd
 b:V<10^m.nd
 l:0<m.nd→10^(m.nd - 1)≤V
theorem qpH {m:MS} {V:Nat} (h:qnV m V) (c:UInt8) (hc:isD c=true∨c=46):qnV (qa0 m c) (if c=46 then V else V*10+(c.toNat - 48)):=by
 obtain⟨lo,hi,ex,z,p,n,b,l⟩:=h;obtain⟨dot,seen,nd,mant,dp,tr⟩:=m;dsimp only at*
 by_cases g:c=46
 ·subst g;rw[if_pos rfl];show qnV ⟨true,seen,nd,mant,nd,tr⟩ V;exact⟨lo,hi,ex,z,p,n,b,l⟩
 ·rw[if_neg g];have hd:=(qaB c).1 (hc.resolve_right g)
  by_cases h0:nd=0∧c=48
  ·obtain⟨h0,rfl⟩:=h0;subst h0;rw[qcP _ _ _ _ _ _ rfl];have:=z rfl;subst this;have hV:V=0:=by rw[Nat.pow_zero] at b;omega
   subst hV;exact⟨lo,hi,fun h=>ex h,z,p,n,(by show(0:Nat)<1;decide),l⟩
  ·by_cases h19:nd<19
   ·rw[qd2 _ _ _ _ _ _ _ g (fun x=>h0 ⟨x.2,x.1⟩) h19];rw[show nd - 19=0 by omega,Nat.pow_zero,Nat.mul_one] at lo hi;have hV:V=mant:=by omega
    subst hV
    have h48:nd=0→48<c.toNat:=fun e=>by
     have h1:c≠48:=fun q=>h0 ⟨e,q⟩
     have:c.toNat≠48:=fun q=>h1 (UInt8.toNat_inj.1 q)
     omega
    have e0:nd+1 - 19=0:=by omega
    refine⟨?_,?_,fun _=>?_,fun h=>?_,fun _=>?_,fun h=>?_,?_,fun _=>?_⟩
    ·show(V*10+(c.toNat - 48))*10^(nd+1 - 19)≤_;rw[e0,Nat.pow_zero];omega
    ·show _<(V*10+(c.toNat - 48)+1)*10^(nd+1 - 19);rw[e0,Nat.pow_zero];omega
    ·show _=(V*10+(c.toNat - 48))*10^(nd+1 - 19);rw[e0,Nat.pow_zero];omega
    ·exact absurd h (Nat.succ_ne_zero nd)
    ·show 0<V*10+(c.toNat - 48);rcases Nat.eq_zero_or_pos nd with e|e
     ·have:=h48 e;omega
     ·have:=p e;omega
    ·have:=n h;omega
    ·show _<10^(nd+1);rw[Nat.pow_succ];omega
    ·show 10^nd≤_;rcases Nat.eq_zero_or_pos nd with e|e
     ·have:=h48 e;rw[e,Nat.pow_zero];omega
     ·have:=l e;rw[show nd=(nd - 1)+1 by omega,Nat.pow_succ];omega
   ·rw[qc7 _ _ _ _ _ _ _ g (by omega)];obtain⟨k,hk⟩: ∃k,nd=19+k:=⟨nd - 19,by omega⟩;subst hk;rw[Nat.add_sub_cancel_left] at lo hi ex;have e1:19+k+1 - 19=k+1:=by omega
    refine⟨?_,?_,fun h=>?_,fun h=>?_,fun _=>?_,fun h=>?_,?_,fun _=>?_⟩
    ·show mant*10^(19+k+1 - 19)≤_;rw[e1,Nat.pow_succ,←Nat.mul_assoc];omega
    ·show _<(mant+1)*10^(19+k+1 - 19);rw[e1,Nat.pow_succ,←Nat.mul_assoc];omega
    ·show _=mant*10^(19+k+1 - 19);have h':(tr||(c !=48))=false:=h;rw[Bool.or_eq_false_iff] at h';have h2:=ex h'.1;have h3:c=48:=by simpa using h'.2
     subst h3;rw[e1,Nat.pow_succ,←Nat.mul_assoc,h2];rfl
    ·exact absurd h (Nat.succ_ne_zero _)
    ·exact p (by omega)
    ·show 19<19+k+1;omega
    ·show _<10^(19+k+1);rw[Nat.pow_succ];omega
    ·show 10^(19+k)≤_;have:=l (by omega);rw[show 19+k=(19+k - 1)+1 by omega,Nat.pow_succ];omega
theorem qrV {s:ByteArray} {a e:Nat} (H:qh6 s a e): ∀k,a+k≤e→qnV (mat s a (a+k)) (mv s a (a+k)):=by
 have hle:=H.le;intro k
 induction k with
 |zero=>
  intro _;rw[Nat.add_zero,qhX,qr1];exact⟨by decide,by decide,fun _=>rfl,fun _=>rfl,fun h=>absurd h (by decide),fun h=>(by cases h),by decide,fun h=>absurd h (by decide)⟩
 |succ k ih=>
  intro hk;rw[show a+(k+1)=(a+k)+1 by omega,qdB s a (a+k) (by omega) (by omega),qle s a (a+k) (by omega) (by omega)];refine qpH (ih (by omega)) _ ?_;rcases H.ch (a+k) (by omega) (by omega)with h|h
  ·exact .inl h
  ·exact .inr h.1
def xpt (m:MS) (E:Int):Int:=(if m.dot then m.dp else (m.nd:Int))+E - m.nd
theorem qp8 {s:ByteArray} {a e:Nat} (H:qh6 s a e):qnV (mat s a e) (mv s a e):=by
 have:=qrV H (e - a) (by have:=H.lt;omega);rwa[show a+(e - a)=e by have:=H.lt;omega] at this
theorem qnS {m:MS} {V:Nat} (h:qnV m V) (h0:0<m.nd) (E:Int):xpt m E=qaG m E - ((m.nd - 19:Nat):Int):=by
 unfold xpt qaG;have:=h.p h0;rw[if_neg (show¬m.mant=0 by omega)];generalize (if m.dot=true then m.dp else (m.nd:Int))=D;omega
theorem qid {m:MS} {V:Nat} (h:qnV m V) (hm:m.mant<10000000000000000000) (E:Int) (ht:m.trunc=false):qbk V (xpt m E) (v64 m.mant (qaG m E)):=by
 rcases Nat.eq_zero_or_pos m.nd with h0|h0
 ·have h1:=h.z h0;have h2:=h.b;rw[h0,Nat.pow_zero] at h2;have hV:V=0:=by omega
  rw[hV,h1];have:v64 0 (qaG m E)=0:=by unfold v64;rw[if_pos rfl]
  rw[this];exact qhb _
 ·have n1:=qn4 m.mant (qaG m E) hm;rw[qnS h h0 E];refine qqz (y:=qaG m E - ((m.nd - 19:Nat):Int)) (by omega) (Int.le_refl _) ?_ n1;rw[Int.sub_self,show(qaG m E - (qaG m E - ((m.nd - 19:Nat):Int))).toNat=m.nd - 19 by omega,h.ex ht];show _=_*1;omega
theorem qkN {m:MS} {V:Nat} (h:qnV m V) (hm:m.mant<10000000000000000000) (E:Int) (ht:m.trunc=true) (hsm: -345≤qaG m E→qaG m E≤310→qbZ (m.mant+1) (qaG m E+348).toNat=qbZ m.mant (qaG m E+348).toNat):qbk V (xpt m E) (v64 m.mant (qaG m E)):=by
 have h0:=h.n ht;rw[qnS h (by omega) E];exact qsj (h.p (by omega)) hm h.lo h.hi hsm
end Go.Proofs.YtdeimnnpcfncpaaGreatDoor
end
