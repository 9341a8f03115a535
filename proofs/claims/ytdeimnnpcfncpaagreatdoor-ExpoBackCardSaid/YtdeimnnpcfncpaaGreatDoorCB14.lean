/- Parts of the proof: A1 N1. -/
import Derived.Test.YtdeimnnpcfncpaaGreatDoorCB11
set_option linter.unusedVariables false
set_option linter.unusedSimpArgs false
set_option maxRecDepth 100000
set_option maxHeartbeats 64000000
section
namespace Go.Proofs.YtdeimnnpcfncpaaGreatDoor.X
open Go Go.RowKit
def ltr (o c:UInt8):Bool:=(decide (97≤c.toNat)&&decide (c.toNat≤122))||(decide (65≤c.toNat)&&decide (c.toNat≤90))||c==95||c==o
theorem qqk (o c:UInt8):ltr o c=((decide (97≤(c.toNat:Int))&&decide ((c.toNat:Int)≤122))||(decide (65≤(c.toNat:Int))&&decide ((c.toNat:Int)≤90))||((c.toNat:Int)==95)||((c.toNat:Int)==(o.toNat:Int))):=by
 unfold ltr
 have e1:(c==95)=((c.toNat:Int)==95):=by
  rw[Bool.eq_iff_iff,beq_iff_eq,beq_iff_eq];exact⟨fun h=>by rw[h];rfl,fun h=>UInt8.toNat_inj.1 (by show c.toNat=95;omega)⟩
 have e2:(c==o)=((c.toNat:Int)==(o.toNat:Int)):=by
  rw[Bool.eq_iff_iff,beq_iff_eq,beq_iff_eq];exact⟨fun h=>by rw[h],fun h=>UInt8.toNat_inj.1 (by omega)⟩
 rw[e1,e2]
 congr 2
 ·congr 1
  ·congr 1<;>(rw[decide_eq_decide];omega)
  ·congr 1<;>(rw[decide_eq_decide];omega)
def nmC (o:UInt8) (l:List UInt8):Bool:=l.all fun c=>ltr o c||isD c
def qan (o:UInt8) (l:List UInt8):Bool:=decide (1≤l.length)&&decide (l.length≤128)&&(ltr o (l.getD 0 0)&&nmC o (l.drop 1))
theorem qoZ {o:UInt8} {l:List UInt8} {i:Nat} (hi:i<l.length):nmC o (l.drop i)=((ltr o (l.getD i 0)||isD (l.getD i 0))&&nmC o (l.drop (i+1))):=by
 rw[qar l i hi];rfl
theorem qfN (s:ByteArray) (hs:s.size≤281474976710656) (o:UInt8) (w:World):Calls Tryz.prog 117 #[.string s,.int .u8 (o.toNat:Int)] w fun e w'=>e= .returned (.bool (qan o s.data.toList))∧w=w':=by
 obtain⟨l,hl⟩: ∃l,Hid (l=s.data.toList):=⟨_,Lh rfl⟩;have hlen:Hid (l.length=s.size):=Lh (by rw[hl.out];exact qas s);have hbt:Hid (∀i,bt s i=l.getD i 0):=Lh (fun i=>by unfold bt;rw[hl.out]);rw[←hl.out]
 by_cases h1:s.size<1
 ·have hF:Hid (qan o l=false):=Lh (by unfold qan;rw[hlen.out,dF (show¬1≤s.size by omega)];rfl);have u1:decide ((s.size:Int)<1)=true:=dT (by omega);have u2:decide (s.size<1)=true:=dT h1;go_enter Tryz.func117,Tryz.ntmps117;go_wp2_with fail;go_ret;exact⟨by rw[hF.out];rfl,rfl⟩
 ·have u1:decide ((s.size:Int)<1)=false:=dF (by omega);have u2:decide (s.size<1)=false:=dF h1
  by_cases h2:128<s.size
  ·have hF:Hid (qan o l=false):=Lh (by unfold qan;rw[hlen.out,dF (show¬s.size≤128 by omega),Bool.and_false];rfl);have u3:decide ((128:Int)<(s.size:Int))=true:=dT (by omega);have u4:decide (128<s.size)=true:=dT h2;go_enter Tryz.func117,Tryz.ntmps117;go_wp2_with fail;go_ret;exact⟨by rw[hF.out];rfl,rfl⟩
  ·have u3:decide ((128:Int)<(s.size:Int))=false:=dF (by omega);have u4:decide (128<s.size)=false:=dF h2
   have hF:Hid (qan o l=(ltr o (l.getD 0 0)&&nmC o (l.drop 1))):=Lh (by
    unfold qan;rw[hlen.out,dT (show 1≤s.size by omega),dT (show s.size≤128 by omega)];rfl)
   obtain⟨N,hN⟩: ∃N,Hid (N=qan o l):=⟨_,Lh rfl⟩;rw[←hN.out] at hF⊢;go_enter Tryz.func117,Tryz.ntmps117;go_wp2_with fail;go_loopg [18] (s.size+1) (fun gk s18 wx=> ∃i:Nat,i≤s.size∧s.size - i<gk∧s18= .int .i64 (i:Int)∧Hid (0<i→N=nmC o (l.drop i))∧w=wx)
   case atStart=>exact⟨0,by omega,by omega,rfl,Lh (fun h=>by omega),rfl⟩
   case round=>
    obtain⟨i,hi,hgk,rfl,hI,rfl⟩:=hrel
    by_cases hlt:i<s.size
    ·have u5:decide ((i:Int)<(s.size:Int))=true:=dT (by omega);have u6:decide (i<s.size)=true:=dT hlt;obtain⟨c,hc,hB⟩:=qdi s i hlt;have hc2:c=l.getD i 0:=by rw[←hbt.out];exact hc.out.symm
     have hst:=qoZ (o:=o) (l:=l) (i:=i) (by rw[hlen.out];exact hlt);rw[←hc2] at hst;have h0c:Hid (i=0→l.getD 0 0=c):=Lh (fun h=>by rw[hc2,h]);replace hst:=Lh hst;clear hc hc2;go_upto_region 7 with (fail)
     go_cut [6,7] (fun s6 s7 wx=>s6= .int .u8 (c.toNat:Int)∧s7= .bool (ltr o c)∧w=wx)
     case first=>
      go_wp2_with fail
      all_goals go_meet
      all_goals clear hst h0c hI hN hF hbt hlen hl hB hgk
      all_goals refine⟨by first|rfl|(congr 1;omega),?_,rfl⟩
      all_goals rw[qqk]
      all_goals congr 1
      all_goals grind
     case rest=>
      obtain⟨rfl,rfl,rfl⟩:=hcut;have hIs:=hI
      cases hb:ltr o c with
      |true=>
       have hI2:Hid (0<i+1→N=nmC o (l.drop (i+1))):=Lh (fun _=>by
        by_cases h0:i=0
        ·rw[hF.out,h0c.out h0,hb,h0];rfl
        ·rw[hI.out (by omega),hst.out,hb];rfl)
       clear hb hst h0c hI hIs;go_wp2_with fail;go_roundg (gk - 1)
       case measure=>omega
       case rel=>exact⟨i+1,by omega,by omega,by go_num,hI2,rfl⟩
      |false=>
       by_cases h0:i=0
       ·have hN0:Hid (N=false):=Lh (by rw[hF.out,h0c.out h0,hb];rfl);have u7:((i:Int)==0)=true:=by rw[h0];rfl
        clear hb hst h0c hI hIs hF h0;go_wp2_with fail;go_ret;exact⟨by rw[hN0.out];rfl,rfl⟩
       ·have u7:((i:Int)==0)=false:=beq_eq_false_iff_ne.2 (by omega)
        cases hd:isD c with
        |true=>
         have hcd:=(qaA c).1 hd;have v1:decide ((c.toNat:Int)<48)=false:=dF (by omega);have v2:decide ((57:Int)<(c.toNat:Int))=false:=dF (by omega);have v1':decide (c.toNat<48)=false:=dF (by omega);have v2':decide (57<c.toNat)=false:=dF (by omega)
         have hI2:Hid (0<i+1→N=nmC o (l.drop (i+1))):=Lh (fun _=>by
          rw[hI.out (by omega),hst.out,hb,hd];rfl)
         clear hb hst h0c hI hIs hd hcd h0;go_wp2_with fail;go_roundg (gk - 1)
         case measure=>omega
         case rel=>exact⟨i+1,by omega,by omega,by go_num,hI2,rfl⟩
        |false=>
         have hcd: ¬(48≤c.toNat∧c.toNat≤57):=fun h=>by rw[(qaA c).2 h] at hd;cases hd
         have hN0:Hid (N=false):=Lh (by rw[hI.out (by omega),hst.out,hb,hd];rfl);clear hb hst h0c hI hIs hd h0 hF
         by_cases h48:c.toNat<48
         ·have v1:decide ((c.toNat:Int)<48)=true:=dT (by omega);have v1':decide (c.toNat<48)=true:=dT h48;go_wp2_with fail;go_ret;exact⟨by rw[hN0.out];rfl,rfl⟩
         ·have v1:decide ((c.toNat:Int)<48)=false:=dF (by omega);have v2:decide ((57:Int)<(c.toNat:Int))=true:=dT (by omega);have v1':decide (c.toNat<48)=false:=dF h48;have v2':decide (57<c.toNat)=true:=dT (by omega);go_wp2_with fail;go_ret;exact⟨by rw[hN0.out];rfl,rfl⟩
    ·obtain rfl:i=s.size:=by omega
     have u5:decide ((s.size:Int)<(s.size:Int))=false:=dF (by omega);have u6:decide (s.size<s.size)=false:=dF (by omega)
     have hN1:Hid (N=true):=Lh (by
      rw[hI.out (by omega),List.drop_of_length_le (by rw[hlen.out];exact Nat.le_refl _)];rfl)
     clear hI hF;go_wp2_with fail;go_ret;exact⟨by rw[hN1.out];rfl,rfl⟩
theorem qhp (s:ByteArray) (hs:s.size≤281474976710656) (w:World):Calls Tryz.prog 108 #[.string s] w fun e w'=>e= .returned (.bool (qan 95 s.data.toList))∧w=w':=by
 have c:=qfN s hs 95 w;rw[show(((95:UInt8).toNat:Int))=95 from rfl] at c;go_enter Tryz.func108,Tryz.ntmps108;go_wp2_with fail;refine c.mono ?_;rintro x w1 ⟨rfl,rfl⟩;go_wp2_with fail;go_ret;exact⟨rfl,rfl⟩
theorem qch (s:ByteArray) (hs:s.size≤281474976710656) (w:World):Calls Tryz.prog 60 #[.string s] w fun e w'=>e= .returned (.bool (qan 58 s.data.toList))∧w=w':=by
 have c:=qfN s hs 58 w;rw[show(((58:UInt8).toNat:Int))=58 from rfl] at c;go_enter Tryz.func60,Tryz.ntmps60;go_wp2_with fail;refine c.mono ?_;rintro x w1 ⟨rfl,rfl⟩;go_wp2_with fail;go_ret;exact⟨rfl,rfl⟩
def qbm (l:List UInt8):Bool:=decide (l.length≤1024)&&((L.ck ⟨l.toArray⟩).2==0)
theorem qr5 (s:ByteArray):(⟨s.data.toList.toArray⟩:ByteArray)=s:=qbq (by simp)
theorem qeH (s:ByteArray) (hs:s.size≤281474976710656) (w:World):Calls Tryz.prog 109 #[.string s] w fun e w'=>e= .returned (.bool (qbm s.data.toList))∧w=w':=by
 have hlen:=qas s
 by_cases h:s.size≤1024
 ·have u1:decide ((s.size:Int)≤1024)=true:=dT (by omega);have u2:decide (s.size≤1024)=true:=dT h;have c:=L.valid_any s (by omega) w;have hF:Hid (qbm s.data.toList=((L.ck s).2==0)):=Lh (by unfold qbm;rw[hlen,u2,qr5];rfl);obtain⟨b,hb⟩: ∃b,((L.ck s).2==0)=b:=⟨_,rfl⟩;rw[hb] at c hF;clear hb hlen;go_enter Tryz.func109,Tryz.ntmps109;go_wp2_with fail;refine c.mono ?_;rintro x w1 ⟨rfl,rfl⟩;go_wp2_with fail;go_ret;exact⟨by rw[hF.out];rfl,rfl⟩
 ·have u1:decide ((s.size:Int)≤1024)=false:=dF (by omega);have u2:decide (s.size≤1024)=false:=dF h;have hF:Hid (qbm s.data.toList=false):=Lh (by unfold qbm;rw[hlen,u2];rfl);clear hlen;go_enter Tryz.func109,Tryz.ntmps109;go_wp2_with fail;go_ret;exact⟨by rw[hF.out];rfl,rfl⟩
end Go.Proofs.YtdeimnnpcfncpaaGreatDoor.X
end
section
namespace Go.Proofs.YtdeimnnpcfncpaaGreatDoor
open Go Ieee
theorem qrx:INF=9218868437227405312:=rfl
theorem qtd (v:Nat):qdx v=false↔v%9223372036854775808≤INF:=by
 unfold qdx;rw[decide_eq_false_iff_not];omega
theorem qsR (v:Nat):qdx v=true↔INF<v%9223372036854775808:=by
 unfold qdx;rw[decide_eq_true_iff]
theorem qnt (v:Nat) (_:v<18446744073709551616):kindN v=4↔qdx v=true:=by
 rw[qsR,qrx];unfold kindN
 by_cases h1:v/4503599627370496%2048=2047
 ·rw[if_pos h1]
  by_cases h2:v%4503599627370496=0
  ·rw[if_pos h2];constructor<;>intro h<;>omega
  ·rw[if_neg h2];constructor<;>intro h<;>omega
 ·rw[if_neg h1];constructor
  ·intro h;exfalso;revert h
   split
   ·decide
   ·split<;>decide
  ·intro h;omega
end Go.Proofs.YtdeimnnpcfncpaaGreatDoor
end
