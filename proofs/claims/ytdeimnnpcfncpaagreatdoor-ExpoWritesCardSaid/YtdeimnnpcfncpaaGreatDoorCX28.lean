/- Parts of the proof: A1 NG NH. -/
import Derived.Test.YtdeimnnpcfncpaaGreatDoorCX27
set_option linter.unusedVariables false
set_option linter.unusedSimpArgs false
set_option maxRecDepth 100000
set_option maxHeartbeats 64000000
section
namespace Go.Proofs.YtdeimnnpcfncpaaGreatDoor.X
open Go Go.RowKit
def ltr (o c:UInt8):Bool:=(decide (97≤c.toNat)&&decide (c.toNat≤122))||(decide (65≤c.toNat)&&decide (c.toNat≤90))||c==95||c==o
theorem qlO (o c:UInt8):ltr o c=((decide (97≤(c.toNat:Int))&&decide ((c.toNat:Int)≤122))||(decide (65≤(c.toNat:Int))&&decide ((c.toNat:Int)≤90))||((c.toNat:Int)==95)||((c.toNat:Int)==(o.toNat:Int))):=by
 unfold ltr
 have e1:(c==95)=((c.toNat:Int)==95):=by
  rw[Bool.eq_iff_iff,beq_iff_eq,beq_iff_eq];exact⟨fun h=>by rw[h];rfl,fun h=>UInt8.toNat_inj.1 (by show c.toNat=95;omega)⟩
 have e2:(c==o)=((c.toNat:Int)==(o.toNat:Int)):=by
  rw[Bool.eq_iff_iff,beq_iff_eq,beq_iff_eq];exact⟨fun h=>by rw[h],fun h=>UInt8.toNat_inj.1 (by omega)⟩
 rw[e1,e2]
 congr 2
 ·congr 1
  ·congr 1<;>(rw[decide_eq_decide];omega)
  ·congr 1<;>(rw[decide_eq_decide];omega)
def nmC (o:UInt8) (l:List UInt8):Bool:=l.all fun c=>ltr o c||isD c
def qan (o:UInt8) (l:List UInt8):Bool:=decide (1≤l.length)&&decide (l.length≤128)&&(ltr o (l.getD 0 0)&&nmC o (l.drop 1))
theorem qqE {o:UInt8} {l:List UInt8} {i:Nat} (hi:i<l.length):nmC o (l.drop i)=((ltr o (l.getD i 0)||isD (l.getD i 0))&&nmC o (l.drop (i+1))):=by
 rw[qas l i hi];rfl
theorem qgM (s:ByteArray) (hs:s.size≤281474976710656) (o:UInt8) (w:World):Calls Tryz.prog 117 #[.string s,.int .u8 (o.toNat:Int)] w fun e w'=>e= .returned (.bool (qan o s.data.toList))∧w=w':=by
 obtain⟨l,hl⟩: ∃l,Hid (l=s.data.toList):=⟨_,Lh rfl⟩;have hlen:Hid (l.length=s.size):=Lh (by rw[hl.out];exact qau s);have hbt:Hid (∀i,bt s i=l.getD i 0):=Lh (fun i=>by unfold bt;rw[hl.out]);rw[←hl.out]
 by_cases h1:s.size<1
 ·have hF:Hid (qan o l=false):=Lh (by unfold qan;rw[hlen.out,dF (show¬1≤s.size by omega)];rfl);have u1:decide ((s.size:Int)<1)=true:=dT (by omega);have u2:decide (s.size<1)=true:=dT h1;go_enter Tryz.func117,Tryz.ntmps117;go_wp2_with fail;go_ret;exact⟨by rw[hF.out];rfl,rfl⟩
 ·have u1:decide ((s.size:Int)<1)=false:=dF (by omega);have u2:decide (s.size<1)=false:=dF h1
  by_cases h2:128<s.size
  ·have hF:Hid (qan o l=false):=Lh (by unfold qan;rw[hlen.out,dF (show¬s.size≤128 by omega),Bool.and_false];rfl);have u3:decide ((128:Int)<(s.size:Int))=true:=dT (by omega);have u4:decide (128<s.size)=true:=dT h2;go_enter Tryz.func117,Tryz.ntmps117;go_wp2_with fail;go_ret;exact⟨by rw[hF.out];rfl,rfl⟩
  ·have u3:decide ((128:Int)<(s.size:Int))=false:=dF (by omega);have u4:decide (128<s.size)=false:=dF h2
   have hF:Hid (qan o l=(ltr o (l.getD 0 0)&&nmC o (l.drop 1))):=Lh (by
    unfold qan;rw[hlen.out,dT (show 1≤s.size by omega),dT (show s.size≤128 by omega)];rfl)
   obtain⟨N,hN⟩: ∃N,Hid (N=qan o l):=⟨_,Lh rfl⟩;rw[←hN.out] at hF⊢;go_enter Tryz.func117,Tryz.ntmps117;go_wp2_with fail;go_loopg [18] (s.size+1) (fun gk s18 wx=> ∃i:Nat,i≤s.size∧s.size - i<gk∧s18= .int .i64 (i:Int)∧Hid (0<i→N=nmC o (l.drop i))∧w=wx)
   case atStart=>exact⟨0,by omega,by omega,rfl,Lh (fun h=>by omega),rfl⟩
   case round=>
    obtain⟨i,hi,hgk,rfl,hI,rfl⟩:=hrel
    by_cases hlt:i<s.size
    ·have u5:decide ((i:Int)<(s.size:Int))=true:=dT (by omega);have u6:decide (i<s.size)=true:=dT hlt;obtain⟨c,hc,hB⟩:=qc0 s i hlt;have hc2:c=l.getD i 0:=by rw[←hbt.out];exact hc.out.symm
     have hst:=qqE (o:=o) (l:=l) (i:=i) (by rw[hlen.out];exact hlt);rw[←hc2] at hst;have h0c:Hid (i=0→l.getD 0 0=c):=Lh (fun h=>by rw[hc2,h]);replace hst:=Lh hst;clear hc hc2;go_upto_region 7 with (fail)
     go_cut [6,7] (fun s6 s7 wx=>s6= .int .u8 (c.toNat:Int)∧s7= .bool (ltr o c)∧w=wx)
     case first=>
      go_wp2_with fail
      all_goals go_meet
      all_goals clear hst h0c hI hN hF hbt hlen hl hB hgk
      all_goals refine⟨by first|rfl|(congr 1;omega),?_,rfl⟩
      all_goals rw[qlO]
      all_goals congr 1
      all_goals grind
     case rest=>
      obtain⟨rfl,rfl,rfl⟩:=hcut;have hIs:=hI
      cases hb:ltr o c with
      |true=>
       have hI2:Hid (0<i+1→N=nmC o (l.drop (i+1))):=Lh (fun _=>by
        by_cases h0:i=0
        ·rw[hF.out,h0c.out h0,hb,h0];rfl
        ·rw[hI.out (by omega),hst.out,hb];rfl)
       clear hb hst h0c hI hIs;go_wp2_with fail;go_roundg (gk - 1)
       case measure=>omega
       case rel=>exact⟨i+1,by omega,by omega,by go_num,hI2,rfl⟩
      |false=>
       by_cases h0:i=0
       ·have hN0:Hid (N=false):=Lh (by rw[hF.out,h0c.out h0,hb];rfl);have u7:((i:Int)==0)=true:=by rw[h0];rfl
        clear hb hst h0c hI hIs hF h0;go_wp2_with fail;go_ret;exact⟨by rw[hN0.out];rfl,rfl⟩
       ·have u7:((i:Int)==0)=false:=beq_eq_false_iff_ne.2 (by omega)
        cases hd:isD c with
        |true=>
         have hcd:=(qaA c).1 hd;have v1:decide ((c.toNat:Int)<48)=false:=dF (by omega);have v2:decide ((57:Int)<(c.toNat:Int))=false:=dF (by omega);have v1':decide (c.toNat<48)=false:=dF (by omega);have v2':decide (57<c.toNat)=false:=dF (by omega)
         have hI2:Hid (0<i+1→N=nmC o (l.drop (i+1))):=Lh (fun _=>by
          rw[hI.out (by omega),hst.out,hb,hd];rfl)
         clear hb hst h0c hI hIs hd hcd h0;go_wp2_with fail;go_roundg (gk - 1)
         case measure=>omega
         case rel=>exact⟨i+1,by omega,by omega,by go_num,hI2,rfl⟩
        |false=>
         have hcd: ¬(48≤c.toNat∧c.toNat≤57):=fun h=>by rw[(qaA c).2 h] at hd;cases hd
         have hN0:Hid (N=false):=Lh (by rw[hI.out (by omega),hst.out,hb,hd];rfl);clear hb hst h0c hI hIs hd h0 hF
         by_cases h48:c.toNat<48
         ·have v1:decide ((c.toNat:Int)<48)=true:=dT (by omega);have v1':decide (c.toNat<48)=true:=dT h48;go_wp2_with fail;go_ret;exact⟨by rw[hN0.out];rfl,rfl⟩
         ·have v1:decide ((c.toNat:Int)<48)=false:=dF (by omega);have v2:decide ((57:Int)<(c.toNat:Int))=true:=dT (by omega);have v1':decide (c.toNat<48)=false:=dF h48;have v2':decide (57<c.toNat)=true:=dT (by omega);go_wp2_with fail;go_ret;exact⟨by rw[hN0.out];rfl,rfl⟩
    ·obtain rfl:i=s.size:=by omega
     have u5:decide ((s.size:Int)<(s.size:Int))=false:=dF (by omega);have u6:decide (s.size<s.size)=false:=dF (by omega)
     have hN1:Hid (N=true):=Lh (by
      rw[hI.out (by omega),List.drop_of_length_le (by rw[hlen.out];exact Nat.le_refl _)];rfl)
     clear hI hF;go_wp2_with fail;go_ret;exact⟨by rw[hN1.out];rfl,rfl⟩
theorem qij (s:ByteArray) (hs:s.size≤281474976710656) (w:World):Calls Tryz.prog 108 #[.string s] w fun e w'=>e= .returned (.bool (qan 95 s.data.toList))∧w=w':=by
 have c:=qgM s hs 95 w;rw[show(((95:UInt8).toNat:Int))=95 from rfl] at c;go_enter Tryz.func108,Tryz.ntmps108;go_wp2_with fail;refine c.mono ?_;rintro x w1 ⟨rfl,rfl⟩;go_wp2_with fail;go_ret;exact⟨rfl,rfl⟩
theorem qcn (s:ByteArray) (hs:s.size≤281474976710656) (w:World):Calls Tryz.prog 60 #[.string s] w fun e w'=>e= .returned (.bool (qan 58 s.data.toList))∧w=w':=by
 have c:=qgM s hs 58 w;rw[show(((58:UInt8).toNat:Int))=58 from rfl] at c;go_enter Tryz.func60,Tryz.ntmps60;go_wp2_with fail;refine c.mono ?_;rintro x w1 ⟨rfl,rfl⟩;go_wp2_with fail;go_ret;exact⟨rfl,rfl⟩
def qbi (l:List UInt8):Bool:=decide (l.length≤1024)&&((L.ck ⟨l.toArray⟩).2==0)
theorem qtH (s:ByteArray):(⟨s.data.toList.toArray⟩:ByteArray)=s:=qbx (by simp)
theorem qe7 (s:ByteArray) (hs:s.size≤281474976710656) (w:World):Calls Tryz.prog 109 #[.string s] w fun e w'=>e= .returned (.bool (qbi s.data.toList))∧w=w':=by
 have hlen:=qau s
 by_cases h:s.size≤1024
 ·have u1:decide ((s.size:Int)≤1024)=true:=dT (by omega);have u2:decide (s.size≤1024)=true:=dT h;have c:=L.valid_any s (by omega) w;have hF:Hid (qbi s.data.toList=((L.ck s).2==0)):=Lh (by unfold qbi;rw[hlen,u2,qtH];rfl);obtain⟨b,hb⟩: ∃b,((L.ck s).2==0)=b:=⟨_,rfl⟩;rw[hb] at c hF;clear hb hlen;go_enter Tryz.func109,Tryz.ntmps109;go_wp2_with fail;refine c.mono ?_;rintro x w1 ⟨rfl,rfl⟩;go_wp2_with fail;go_ret;exact⟨by rw[hF.out];rfl,rfl⟩
 ·have u1:decide ((s.size:Int)≤1024)=false:=dF (by omega);have u2:decide (s.size≤1024)=false:=dF h;have hF:Hid (qbi s.data.toList=false):=Lh (by unfold qbi;rw[hlen,u2];rfl);clear hlen;go_enter Tryz.func109,Tryz.ntmps109;go_wp2_with fail;go_ret;exact⟨by rw[hF.out];rfl,rfl⟩
end Go.Proofs.YtdeimnnpcfncpaaGreatDoor.X
end
section
namespace Go.Proofs.YtdeimnnpcfncpaaGreatDoor
open Go Go.RowKit
def qrW (l:List UInt8):Nat:=if l=[45,73,110,102] then 18442240474082181120 else if l=[78,97,78] then 9221120237041090561 else 9218868437227405312
def qr0 (l:List UInt8) (v e:Int):Prop:=
 (1200<l.length∧v=0∧e=3)∨(l.length≤1200∧qbD l=true∧v=(qrW l:Int)∧e=0)∨(l.length≤1200∧qbD l=false∧qaQ l=false∧v=0∧e=210)∨
   (l.length≤1200∧qbD l=false∧qaQ l=true∧e=0∧ ∃r:Nat,qbn (qnb l) (qmX l) r∧v=((sgw (ngL l)+r:Nat):Int))
def qrN (l:List UInt8) (w:World) (x:Ending) (w':World):Prop:=
 Below w.heap.size w w'∧ ∃v e,qr0 l v e∧x= .returned (.tuple #[.int .u64 v,.int .i64 e])
theorem qrp (l:List UInt8) (h:qbD l=true):l=[73,110,102]∨l=[43,73,110,102]∨l=[45,73,110,102]∨l=[78,97,78]:=by
 unfold qbD at h;simp only[Bool.or_eq_true,beq_iff_eq] at h;rcases h with ((h|h)|h)|h
 ·exact .inl h
 ·exact .inr (.inl h)
 ·exact .inr (.inr (.inl h))
 ·exact .inr (.inr (.inr h))
theorem qjS (s:ByteArray) (hs:s.size≤1200) (hn:qbD s.data.toList=true) (w:World):Calls Tryz.prog 73 #[.string s] w (qi6 (qrW s.data.toList:Int) 0 w):=by
 have u1:decide ((1200:Int)<(s.size:Int))=false:=dF (by omega);have u2:decide (1200<s.size)=false:=dF (by omega);have hc:=qrp _ hn;clear hn;obtain⟨l,hlE⟩: ∃l,l=s.data.toList:=⟨_,rfl⟩;rw[←hlE] at hc⊢;have hst:s.toList=l:=by rw[hlE];exact ByteArray.toList_eq s
 clear hlE;rcases hc with rfl|rfl|rfl|rfl
 ·have e1:(s.toList==[73,110,102])=true:=by rw[hst];rfl
  clear hst;go_enter Tryz.func73,Tryz.ntmps73;go_wp2_with fail;go_ret2;exact⟨rfl,Below.refl _ _⟩
 ·have e1:(s.toList==[73,110,102])=false:=by rw[hst];rfl
  have e2:(s.toList==[43,73,110,102])=true:=by rw[hst];rfl
  clear hst;go_enter Tryz.func73,Tryz.ntmps73;go_wp2_with fail;go_ret2;exact⟨rfl,Below.refl _ _⟩
 ·have e1:(s.toList==[73,110,102])=false:=by rw[hst];rfl
  have e2:(s.toList==[43,73,110,102])=false:=by rw[hst];rfl
  have e3:(s.toList==[45,73,110,102])=true:=by rw[hst];rfl
  clear hst;go_enter Tryz.func73,Tryz.ntmps73;go_wp2_with fail;go_ret2;exact⟨rfl,Below.refl _ _⟩
 ·have e1:(s.toList==[73,110,102])=false:=by rw[hst];rfl
  have e2:(s.toList==[43,73,110,102])=false:=by rw[hst];rfl
  have e3:(s.toList==[45,73,110,102])=false:=by rw[hst];rfl
  have e4:(s.toList==[78,97,78])=true:=by rw[hst];rfl
  clear hst;go_enter Tryz.func73,Tryz.ntmps73;go_wp2_with fail;go_ret2;exact⟨rfl,Below.refl _ _⟩
theorem qnZ (s:ByteArray) (hs:s.size≤780∨1200<s.size) (w:World) (hG:qo1 w):Calls Tryz.prog 73 #[.string s] w (qrN s.data.toList w):=by
 have hlen:=qau s;have fin: ∀v e,qr0 s.data.toList v e→Calls Tryz.prog 73 #[.string s] w (qi6 v e w)→Calls Tryz.prog 73 #[.string s] w (qrN s.data.toList w):=fun v e h c=>c.mono fun x w' ⟨h1,h2⟩=>⟨h2,v,e,h,h1⟩
 by_cases hb:1200<s.size
 ·exact fin _ _ (.inl ⟨by omega,rfl,rfl⟩) (qk7 s hb w)
 ·have h7:s.size≤780:=by omega
  cases hn:qbD s.data.toList with
  |true=>exact fin _ _ (.inr (.inl ⟨by omega,hn,rfl,rfl⟩)) (qjS s (by omega) hn w)
  |false=>
   cases hr:qaQ s.data.toList with
   |false=>exact fin _ _ (.inr (.inr (.inl ⟨by omega,hn,hr,rfl,rfl⟩))) (qnT s (by omega) hn hr w)
   |true=>
    obtain⟨r,h⟩:=qpr (qnb s.data.toList) (qmX s.data.toList);exact fin _ _ (.inr (.inr (.inr ⟨by omega,hn,hr,rfl,r,h,rfl⟩))) (qi4 s h7 hn hr r h w hG)
end Go.Proofs.YtdeimnnpcfncpaaGreatDoor
end
