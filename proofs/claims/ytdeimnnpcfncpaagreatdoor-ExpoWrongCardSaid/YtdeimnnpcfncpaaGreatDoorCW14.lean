/- Parts of the proof: A1 N1 Sort. -/
import Derived.Shelf.SlSortCmp.WholeK
import Derived.Shelf.SlicesE.Clone
import Derived.Test.YtdeimnnpcfncpaaGreatDoorCW11
set_option linter.unusedVariables false
set_option linter.unusedSimpArgs false
set_option maxRecDepth 100000
set_option maxHeartbeats 64000000
section
namespace Go.Proofs.YtdeimnnpcfncpaaGreatDoor.X
open Go Go.RowKit
def ltr (o c:UInt8):Bool:=(decide (97≤c.toNat)&&decide (c.toNat≤122))||(decide (65≤c.toNat)&&decide (c.toNat≤90))||c==95||c==o
theorem qom (o c:UInt8):ltr o c=((decide (97≤(c.toNat:Int))&&decide ((c.toNat:Int)≤122))||(decide (65≤(c.toNat:Int))&&decide ((c.toNat:Int)≤90))||((c.toNat:Int)==95)||((c.toNat:Int)==(o.toNat:Int))):=by
 unfold ltr
 have e1:(c==95)=((c.toNat:Int)==95):=by
  rw[Bool.eq_iff_iff,beq_iff_eq,beq_iff_eq];exact⟨fun h=>by rw[h];rfl,fun h=>UInt8.toNat_inj.1 (by show c.toNat=95;omega)⟩
 have e2:(c==o)=((c.toNat:Int)==(o.toNat:Int)):=by
  rw[Bool.eq_iff_iff,beq_iff_eq,beq_iff_eq];exact⟨fun h=>by rw[h],fun h=>UInt8.toNat_inj.1 (by omega)⟩
 rw[e1,e2]
 congr 2
 ·congr 1
  ·congr 1<;>(rw[decide_eq_decide];omega)
  ·congr 1<;>(rw[decide_eq_decide];omega)
def nmC (o:UInt8) (l:List UInt8):Bool:=l.all fun c=>ltr o c||isD c
def qaj (o:UInt8) (l:List UInt8):Bool:=decide (1≤l.length)&&decide (l.length≤128)&&(ltr o (l.getD 0 0)&&nmC o (l.drop 1))
theorem qoY {o:UInt8} {l:List UInt8} {i:Nat} (hi:i<l.length):nmC o (l.drop i)=((ltr o (l.getD i 0)||isD (l.getD i 0))&&nmC o (l.drop (i+1))):=by
 rw[qas l i hi];rfl
theorem qfG (s:ByteArray) (hs:s.size≤281474976710656) (o:UInt8) (w:World):Calls Tryz.prog 117 #[.string s,.int .u8 (o.toNat:Int)] w fun e w'=>e= .returned (.bool (qaj o s.data.toList))∧w=w':=by
 obtain⟨l,hl⟩: ∃l,Hid (l=s.data.toList):=⟨_,Lh rfl⟩;have hlen:Hid (l.length=s.size):=Lh (by rw[hl.out];exact qau s);have hbt:Hid (∀i,bt s i=l.getD i 0):=Lh (fun i=>by unfold bt;rw[hl.out]);rw[←hl.out]
 by_cases h1:s.size<1
 ·have hF:Hid (qaj o l=false):=Lh (by unfold qaj;rw[hlen.out,dF (show¬1≤s.size by omega)];rfl);have u1:decide ((s.size:Int)<1)=true:=dT (by omega);have u2:decide (s.size<1)=true:=dT h1;go_enter Tryz.func117,Tryz.ntmps117;go_wp2_with fail;go_ret;exact⟨by rw[hF.out];rfl,rfl⟩
 ·have u1:decide ((s.size:Int)<1)=false:=dF (by omega);have u2:decide (s.size<1)=false:=dF h1
  by_cases h2:128<s.size
  ·have hF:Hid (qaj o l=false):=Lh (by unfold qaj;rw[hlen.out,dF (show¬s.size≤128 by omega),Bool.and_false];rfl);have u3:decide ((128:Int)<(s.size:Int))=true:=dT (by omega);have u4:decide (128<s.size)=true:=dT h2;go_enter Tryz.func117,Tryz.ntmps117;go_wp2_with fail;go_ret;exact⟨by rw[hF.out];rfl,rfl⟩
  ·have u3:decide ((128:Int)<(s.size:Int))=false:=dF (by omega);have u4:decide (128<s.size)=false:=dF h2
   have hF:Hid (qaj o l=(ltr o (l.getD 0 0)&&nmC o (l.drop 1))):=Lh (by
    unfold qaj;rw[hlen.out,dT (show 1≤s.size by omega),dT (show s.size≤128 by omega)];rfl)
   obtain⟨N,hN⟩: ∃N,Hid (N=qaj o l):=⟨_,Lh rfl⟩;rw[←hN.out] at hF⊢;go_enter Tryz.func117,Tryz.ntmps117;go_wp2_with fail;go_loopg [18] (s.size+1) (fun gk s18 wx=> ∃i:Nat,i≤s.size∧s.size - i<gk∧s18= .int .i64 (i:Int)∧Hid (0<i→N=nmC o (l.drop i))∧w=wx)
   case atStart=>exact⟨0,by omega,by omega,rfl,Lh (fun h=>by omega),rfl⟩
   case round=>
    obtain⟨i,hi,hgk,rfl,hI,rfl⟩:=hrel
    by_cases hlt:i<s.size
    ·have u5:decide ((i:Int)<(s.size:Int))=true:=dT (by omega);have u6:decide (i<s.size)=true:=dT hlt;obtain⟨c,hc,hB⟩:=qdb s i hlt;have hc2:c=l.getD i 0:=by rw[←hbt.out];exact hc.out.symm
     have hst:=qoY (o:=o) (l:=l) (i:=i) (by rw[hlen.out];exact hlt);rw[←hc2] at hst;have h0c:Hid (i=0→l.getD 0 0=c):=Lh (fun h=>by rw[hc2,h]);replace hst:=Lh hst;clear hc hc2;go_upto_region 7 with (fail)
     go_cut [6,7] (fun s6 s7 wx=>s6= .int .u8 (c.toNat:Int)∧s7= .bool (ltr o c)∧w=wx)
     case first=>
      go_wp2_with fail
      all_goals go_meet
      all_goals clear hst h0c hI hN hF hbt hlen hl hB hgk
      all_goals refine⟨by first|rfl|(congr 1;omega),?_,rfl⟩
      all_goals rw[qom]
      all_goals congr 1
      all_goals grind
     case rest=>
      obtain⟨rfl,rfl,rfl⟩:=hcut;have hIs:=hI
      cases hb:ltr o c with
      |true=>
       have hI2:Hid (0<i+1→N=nmC o (l.drop (i+1))):=Lh (fun _=>by
        by_cases h0:i=0
        ·rw[hF.out,h0c.out h0,hb,h0];rfl
        ·rw[hI.out (by omega),hst.out,hb];rfl)
       clear hb hst h0c hI hIs;go_wp2_with fail;go_roundg (gk - 1)
       case measure=>omega
       case rel=>exact⟨i+1,by omega,by omega,by go_num,hI2,rfl⟩
      |false=>
       by_cases h0:i=0
       ·have hN0:Hid (N=false):=Lh (by rw[hF.out,h0c.out h0,hb];rfl);have u7:((i:Int)==0)=true:=by rw[h0];rfl
        clear hb hst h0c hI hIs hF h0;go_wp2_with fail;go_ret;exact⟨by rw[hN0.out];rfl,rfl⟩
       ·have u7:((i:Int)==0)=false:=beq_eq_false_iff_ne.2 (by omega)
        cases hd:isD c with
        |true=>
         have hcd:=(qaJ c).1 hd;have v1:decide ((c.toNat:Int)<48)=false:=dF (by omega);have v2:decide ((57:Int)<(c.toNat:Int))=false:=dF (by omega);have v1':decide (c.toNat<48)=false:=dF (by omega);have v2':decide (57<c.toNat)=false:=dF (by omega)
         have hI2:Hid (0<i+1→N=nmC o (l.drop (i+1))):=Lh (fun _=>by
          rw[hI.out (by omega),hst.out,hb,hd];rfl)
         clear hb hst h0c hI hIs hd hcd h0;go_wp2_with fail;go_roundg (gk - 1)
         case measure=>omega
         case rel=>exact⟨i+1,by omega,by omega,by go_num,hI2,rfl⟩
        |false=>
         have hcd: ¬(48≤c.toNat∧c.toNat≤57):=fun h=>by rw[(qaJ c).2 h] at hd;cases hd
         have hN0:Hid (N=false):=Lh (by rw[hI.out (by omega),hst.out,hb,hd];rfl);clear hb hst h0c hI hIs hd h0 hF
         by_cases h48:c.toNat<48
         ·have v1:decide ((c.toNat:Int)<48)=true:=dT (by omega);have v1':decide (c.toNat<48)=true:=dT h48;go_wp2_with fail;go_ret;exact⟨by rw[hN0.out];rfl,rfl⟩
         ·have v1:decide ((c.toNat:Int)<48)=false:=dF (by omega);have v2:decide ((57:Int)<(c.toNat:Int))=true:=dT (by omega);have v1':decide (c.toNat<48)=false:=dF h48;have v2':decide (57<c.toNat)=true:=dT (by omega);go_wp2_with fail;go_ret;exact⟨by rw[hN0.out];rfl,rfl⟩
    ·obtain rfl:i=s.size:=by omega
     have u5:decide ((s.size:Int)<(s.size:Int))=false:=dF (by omega);have u6:decide (s.size<s.size)=false:=dF (by omega)
     have hN1:Hid (N=true):=Lh (by
      rw[hI.out (by omega),List.drop_of_length_le (by rw[hlen.out];exact Nat.le_refl _)];rfl)
     clear hI hF;go_wp2_with fail;go_ret;exact⟨by rw[hN1.out];rfl,rfl⟩
theorem qhO (s:ByteArray) (hs:s.size≤281474976710656) (w:World):Calls Tryz.prog 108 #[.string s] w fun e w'=>e= .returned (.bool (qaj 95 s.data.toList))∧w=w':=by
 have c:=qfG s hs 95 w;rw[show(((95:UInt8).toNat:Int))=95 from rfl] at c;go_enter Tryz.func108,Tryz.ntmps108;go_wp2_with fail;refine c.mono ?_;rintro x w1 ⟨rfl,rfl⟩;go_wp2_with fail;go_ret;exact⟨rfl,rfl⟩
theorem qb6 (s:ByteArray) (hs:s.size≤281474976710656) (w:World):Calls Tryz.prog 60 #[.string s] w fun e w'=>e= .returned (.bool (qaj 58 s.data.toList))∧w=w':=by
 have c:=qfG s hs 58 w;rw[show(((58:UInt8).toNat:Int))=58 from rfl] at c;go_enter Tryz.func60,Tryz.ntmps60;go_wp2_with fail;refine c.mono ?_;rintro x w1 ⟨rfl,rfl⟩;go_wp2_with fail;go_ret;exact⟨rfl,rfl⟩
def qbn (l:List UInt8):Bool:=decide (l.length≤1024)&&((L.ck ⟨l.toArray⟩).2==0)
theorem qrM (s:ByteArray):(⟨s.data.toList.toArray⟩:ByteArray)=s:=qbt (by simp)
theorem qev (s:ByteArray) (hs:s.size≤281474976710656) (w:World):Calls Tryz.prog 109 #[.string s] w fun e w'=>e= .returned (.bool (qbn s.data.toList))∧w=w':=by
 have hlen:=qau s
 by_cases h:s.size≤1024
 ·have u1:decide ((s.size:Int)≤1024)=true:=dT (by omega);have u2:decide (s.size≤1024)=true:=dT h;have c:=L.valid_any s (by omega) w;have hF:Hid (qbn s.data.toList=((L.ck s).2==0)):=Lh (by unfold qbn;rw[hlen,u2,qrM];rfl);obtain⟨b,hb⟩: ∃b,((L.ck s).2==0)=b:=⟨_,rfl⟩;rw[hb] at c hF;clear hb hlen;go_enter Tryz.func109,Tryz.ntmps109;go_wp2_with fail;refine c.mono ?_;rintro x w1 ⟨rfl,rfl⟩;go_wp2_with fail;go_ret;exact⟨by rw[hF.out];rfl,rfl⟩
 ·have u1:decide ((s.size:Int)≤1024)=false:=dF (by omega);have u2:decide (s.size≤1024)=false:=dF h;have hF:Hid (qbn s.data.toList=false):=Lh (by unfold qbn;rw[hlen,u2];rfl);clear hlen;go_enter Tryz.func109,Tryz.ntmps109;go_wp2_with fail;go_ret;exact⟨by rw[hF.out];rfl,rfl⟩
end Go.Proofs.YtdeimnnpcfncpaaGreatDoor.X
end
section
namespace Go.Proofs.YtdeimnnpcfncpaaGreatDoor
open Go Ieee
theorem qqF:INF=9218868437227405312:=rfl
theorem qsy (v:Nat):qeK v=false↔v%9223372036854775808≤INF:=by
 unfold qeK;rw[decide_eq_false_iff_not];omega
theorem qsi (v:Nat):qeK v=true↔INF<v%9223372036854775808:=by
 unfold qeK;rw[decide_eq_true_iff]
theorem qsH (v:Nat) (_:v<18446744073709551616):kindN v=4↔qeK v=true:=by
 rw[qsi,qqF];unfold kindN
 by_cases h1:v/4503599627370496%2048=2047
 ·rw[if_pos h1]
  by_cases h2:v%4503599627370496=0
  ·rw[if_pos h2];constructor<;>intro h<;>omega
  ·rw[if_neg h2];constructor<;>intro h<;>omega
 ·rw[if_neg h1];constructor
  ·intro h;exfalso;revert h
   split
   ·decide
   ·split<;>decide
  ·intro h;omega
end Go.Proofs.YtdeimnnpcfncpaaGreatDoor
end
section
namespace Go.Proofs.YtdeimnnpcfncpaaGreatDoor
open Go.Shelf
def Tryz.sortLb_ren:Go.Shelf.Ren:=⟨fun|6=>101|15=>166|14=>165|28=>221|29=>222|20=>213|21=>214|22=>215|23=>216|24=>217|25=>218|26=>219|27=>220|46=>251|47=>252|48=>253|49=>254|50=>255|57=>270|n=>n,fun|22=>31|24=>44|25=>162|3=>3|39=>86|0=>0|53=>172|55=>24|4=>4|46=>267|45=>266|50=>126|5=>5|9=>9|66=>301|70=>305|76=>319|77=>247|n=>n,fun|n=>n⟩
theorem Tryz.sortLb:Go.Proofs.SlLaysF0.n6 Tryz.prog Tryz.sortLb_ren:={
 mixed:=by kernel_rfl
 f6:=⟨Tryz.f101.name,by decide,Tryz.func101.trans (congrArg some (by kernel_rfl))⟩
 f14:=⟨Tryz.f165.name,by decide,Tryz.func165.trans (congrArg some (by kernel_rfl))⟩
 f15:=Tryz.func166.trans (congrArg some (by kernel_rfl))
 f20:=⟨Tryz.f213.name,by decide,Tryz.func213.trans (congrArg some (by kernel_rfl))⟩
 f21:=⟨Tryz.f214.name,by decide,Tryz.func214.trans (congrArg some (by kernel_rfl))⟩
 f22:=⟨Tryz.f215.name,by decide,Tryz.func215.trans (congrArg some (by kernel_rfl))⟩
 f23:=⟨Tryz.f216.name,by decide,Tryz.func216.trans (congrArg some (by kernel_rfl))⟩
 f24:=⟨Tryz.f217.name,by decide,Tryz.func217.trans (congrArg some (by kernel_rfl))⟩
 f25:=⟨Tryz.f218.name,by decide,Tryz.func218.trans (congrArg some (by kernel_rfl))⟩
 f26:=⟨Tryz.f219.name,by decide,Tryz.func219.trans (congrArg some (by kernel_rfl))⟩
 f27:=⟨Tryz.f220.name,by decide,Tryz.func220.trans (congrArg some (by kernel_rfl))⟩
 f28:=Tryz.func221.trans (congrArg some (by kernel_rfl))
 f29:=Tryz.func222.trans (congrArg some (by kernel_rfl))
 f46:=⟨Tryz.f251.name,by decide,Tryz.func251.trans (congrArg some (by kernel_rfl))⟩
 f47:=Tryz.func252.trans (congrArg some (by kernel_rfl))
 f48:=Tryz.func253.trans (congrArg some (by kernel_rfl))
 f49:=⟨Tryz.f254.name,by decide,Tryz.func254.trans (congrArg some (by kernel_rfl))⟩
 f50:=⟨Tryz.f255.name,by decide,Tryz.func255.trans (congrArg some (by kernel_rfl))⟩
 f57:=⟨Tryz.f270.name,by decide,Tryz.func270.trans (congrArg some (by kernel_rfl))⟩
 t0:=Tryz.underlying0
 a0:=Tryz.isAgg0
 z0:=Tryz.sizeOf0
 v0:=Tryz.zeroValue0
 t3:=Tryz.underlying3
 a3:=Tryz.isAgg3
 z3:=Tryz.sizeOf3
 v3:=Tryz.zeroValue3
 t4:=Tryz.underlying4
 a4:=Tryz.isAgg4
 z4:=Tryz.sizeOf4
 v4:=Tryz.zeroValue4
 t5:=Tryz.underlying5
 a5:=Tryz.isAgg5
 z5:=Tryz.sizeOf5
 v5:=Tryz.zeroValue5
 t9:=Tryz.underlying9
 a9:=Tryz.isAgg9
 z9:=Tryz.sizeOf9
 v9:=Tryz.zeroValue9
 t22:=Tryz.underlying31
 a22:=Tryz.isAgg31
 z22:=Tryz.sizeOf31
 v22:=Tryz.zeroValue31
 t25:=Tryz.underlying162
 a25:=Tryz.isAgg162
 z25:=Tryz.sizeOf162
 v25:=Tryz.zeroValue162
 t39:=Tryz.underlying86
 a39:=Tryz.isAgg86
 z39:=Tryz.sizeOf86
 v39:=Tryz.zeroValue86
 t45:=Tryz.underlying266
 a45:=Tryz.isAgg266
 z45:=Tryz.sizeOf266
 v45:=Tryz.zeroValue266
 t46:=Tryz.underlying267
 a46:=Tryz.isAgg267
 z46:=Tryz.sizeOf267
 v46:=Tryz.zeroValue267
 t50:=Tryz.underlying126
 a50:=Tryz.isAgg126
 z50:=Tryz.sizeOf126
 v50:=Tryz.zeroValue126
 t53:=Tryz.underlying172
 a53:=Tryz.isAgg172
 z53:=Tryz.sizeOf172
 v53:=Tryz.zeroValue172
 t55:=Tryz.underlying24
 a55:=Tryz.isAgg24
 z55:=Tryz.sizeOf24
 v55:=Tryz.zeroValue24
 t66:=Tryz.underlying301
 a66:=Tryz.isAgg301
 z66:=Tryz.sizeOf301
 v66:=Tryz.zeroValue301
 t70:=Tryz.underlying305
 a70:=Tryz.isAgg305
 z70:=Tryz.sizeOf305
 v70:=Tryz.zeroValue305
 t76:=Tryz.underlying319
 a76:=Tryz.isAgg319
 z76:=Tryz.sizeOf319
 v76:=Tryz.zeroValue319
 t77:=Tryz.underlying247
 a77:=Tryz.isAgg247
 z77:=Tryz.sizeOf247
 v77:=Tryz.zeroValue247}
def Tryz.cloneLb_ren:Go.Shelf.Ren:=⟨fun|41=>100|n=>n,fun|22=>31|23=>44|4=>4|n=>n,fun|n=>n⟩
theorem Tryz.cloneLb:Go.Proofs.SlLaysE0.n41 Tryz.prog Tryz.cloneLb_ren:={
 mixed:=by kernel_rfl
 f41:=⟨Tryz.f100.name,by decide,Tryz.func100.trans (congrArg some (by kernel_rfl))⟩
 t4:=Tryz.underlying4
 a4:=Tryz.isAgg4
 z4:=Tryz.sizeOf4
 v4:=Tryz.zeroValue4
 t22:=Tryz.underlying31
 a22:=Tryz.isAgg31
 z22:=Tryz.sizeOf31
 v22:=Tryz.zeroValue31}
end Go.Proofs.YtdeimnnpcfncpaaGreatDoor
end
