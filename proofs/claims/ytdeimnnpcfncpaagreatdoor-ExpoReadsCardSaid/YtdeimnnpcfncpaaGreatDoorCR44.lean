/- Parts of the proof: S1 S2 S3 S4 S5 S6. -/
import Derived.Test.YtdeimnnpcfncpaaGreatDoorCR43
set_option linter.unusedVariables false
set_option linter.unusedSimpArgs false
set_option maxRecDepth 100000
set_option maxHeartbeats 64000000
namespace Go.Proofs.YtdeimnnpcfncpaaGreatDoor.X
open Go Go.RowKit
def skp (l:List UInt8) (i:Nat):Nat:=l.length - (tb (l.drop i)).length
def wpo (l:List UInt8) (i:Nat):Nat:=l.length - (wr (l.drop i)).length
theorem qgp (l t:List UInt8) (i:Nat) (h: ∃k,t=(l.drop i).drop k) (hi:i≤l.length):l.drop (l.length - t.length)=t∧(t.length≤l.length - i):=by
 obtain⟨k,rfl⟩:=h;rw[List.drop_drop,List.length_drop];refine⟨?_,by omega⟩;rcases Nat.lt_or_ge l.length (i+k)with h'|h'
 ·rw[List.drop_eq_nil_of_le (by omega:l.length≤i+k),List.drop_eq_nil_of_le (by omega)]
 ·congr 1;omega
theorem qrs (l:List UInt8): ∃k,tb l=l.drop k:=by
 induction l with
 |nil=>exact⟨0,rfl⟩
 |cons c t ih=>
  cases h:nb c with
  |true=>exact⟨0,by rw[qgm _ _ h];rfl⟩
  |false=>
   obtain⟨k,hk⟩:=ih;exact⟨k+1,by rw[qgy _ _ h,hk];rfl⟩
theorem qaK (l:List UInt8) (i:Nat) (hi:i≤l.length):l.drop (skp l i)=tb (l.drop i)∧i≤skp l i∧skp l i≤l.length:=by
 obtain⟨h1,h2⟩:=qgp l _ i (qrs _) hi;exact⟨h1,by unfold skp;omega,Nat.sub_le _ _⟩
theorem qcz (l:List UInt8) (i:Nat) (hi:i≤l.length):l.drop (wpo l i)=wr (l.drop i)∧i≤wpo l i∧wpo l i≤l.length:=by
 obtain⟨k1,k2,k3⟩:=qaE nb (l.drop i);obtain⟨h1,h2⟩:=qgp l (wr (l.drop i)) i ⟨_,k2.symm⟩ hi;exact⟨h1,by unfold wpo;omega,Nat.sub_le _ _⟩
theorem qaY (l:List UInt8) (i:Nat) (h:i<l.length):l.drop i=l.getD i 0::l.drop (i+1):=by
 rw[List.drop_eq_getElem_cons h];simp[gZd,gZq h]
theorem qiX (c:UInt8):(nb c=false∧(c=32∨c=9))∨(nb c=true∧c≠32∧c≠9):=by
 unfold nb
 by_cases h1:c=32
 ·subst h1;exact .inl ⟨by decide,.inl rfl⟩
 ·by_cases h2:c=9
  ·subst h2;exact .inl ⟨by decide,.inr rfl⟩
  ·exact .inr ⟨by simp[h1,h2],h1,h2⟩
theorem qd5 (l:List UInt8) (i:Nat):bt (BS l) i=l.getD i 0:=by
 unfold bt BS;simp
theorem qa8 (l:List UInt8) (hl:l.length≤1000000000) (i:Nat) (hi:i≤l.length) (w:World):
 Calls Tryz.prog 134 #[.string (BS l),.int .i64 (i:Int)] w fun e w'=>e= .returned (.int .i64 ((skp l i:Nat):Int))∧w=w':=by
 have hz:=qad l;have hF:=Lh (qaK l i hi);go_enter Tryz.func134,Tryz.ntmps134;go_wp2_with fail;go_loopg [1] (l.length+1) (fun gk s1 wx=> ∃j:Nat,i≤j∧j≤l.length∧l.length - j<gk∧s1= .int .i64 (j:Int)∧Hid (tb (l.drop j)=tb (l.drop i))∧w=wx)
 case atStart=>exact⟨i,Nat.le_refl _,hi,by omega,rfl,Lh rfl,rfl⟩
 case round=>
  obtain⟨j,hij,hj,hgk,rfl,hT,rfl⟩:=hrel;rcases Nat.lt_or_ge j l.length with hlt|hge
  ·have u5:decide ((j:Int)<((BS l).size:Int))=true:=dT (by omega);have u6:decide (j<(BS l).size)=true:=dT (by omega);obtain⟨c,hc,hB⟩:=qbG (BS l) j (by omega);have hcc:Hid (l.drop j=c::l.drop (j+1)):=Lh (by rw[←hc.out,qd5];exact qaY l j hlt);clear hc;rcases qiX c with ⟨h1,h2⟩|⟨h1,h2,h3⟩
   ·have hT2:Hid (tb (l.drop (j+1))=tb (l.drop i)):=Lh (by rw[←hT.out,hcc.out,qgy _ _ h1]);rcases h2 with rfl|rfl
    ·go_wp2_with fail;go_roundg (gk - 1)
     case measure=>omega
     case rel=>exact⟨j+1,by omega,by omega,by omega,by go_num,hT2,rfl⟩
    ·go_wp2_with fail;go_roundg (gk - 1)
     case measure=>omega
     case rel=>exact⟨j+1,by omega,by omega,by omega,by go_num,hT2,rfl⟩
   ·have v1:=qaJ c 32 32 rfl h2;have v2:=qaJ c 9 9 rfl h3
    have hj2:Hid (j=skp l i):=Lh (by
     have:tb (l.drop j)=l.drop j:=by rw[hcc.out,qgm _ _ h1]
     unfold skp
     rw[←hT.out,this,List.length_drop];omega)
    go_wp2_with fail;go_ret;exact⟨by rw[←hj2.out];rfl,rfl⟩
  ·obtain rfl:j=l.length:=by omega
   have u5:decide ((l.length:Int)<((BS l).size:Int))=false:=dF (by omega);have u6:decide (l.length<(BS l).size)=false:=dF (by omega)
   have hj2:Hid (l.length=skp l i):=Lh (by
    have:tb (l.drop i)=[]:=by rw[←hT.out,List.drop_eq_nil_of_le (Nat.le_refl _)];rfl
    unfold skp
    rw[this];simp)
   go_wp2_with fail;go_ret;exact⟨by rw[←hj2.out];rfl,rfl⟩
theorem qdr (l:List UInt8) (hl:l.length≤1000000000) (i:Nat) (hi:i≤l.length) (w:World):
 Calls Tryz.prog 138 #[.string (BS l),.int .i64 (i:Int)] w fun e w'=>e= .returned (.int .i64 ((wpo l i:Nat):Int))∧w=w':=by
 have hz:=qad l;have hF:=Lh (qcz l i hi);go_enter Tryz.func138,Tryz.ntmps138;go_wp2_with fail;go_loopg [1] (l.length+1) (fun gk s1 wx=> ∃j:Nat,i≤j∧j≤l.length∧l.length - j<gk∧s1= .int .i64 (j:Int)∧Hid (wr (l.drop j)=wr (l.drop i))∧w=wx)
 case atStart=>exact⟨i,Nat.le_refl _,hi,by omega,rfl,Lh rfl,rfl⟩
 case round=>
  obtain⟨j,hij,hj,hgk,rfl,hT,rfl⟩:=hrel;rcases Nat.lt_or_ge j l.length with hlt|hge
  ·have u5:decide ((j:Int)<((BS l).size:Int))=true:=dT (by omega);have u6:decide (j<(BS l).size)=true:=dT (by omega);obtain⟨c,hc,hB⟩:=qbG (BS l) j (by omega);have hcc:Hid (l.drop j=c::l.drop (j+1)):=Lh (by rw[←hc.out,qd5];exact qaY l j hlt);clear hc;rcases qiX c with ⟨h1,h2⟩|⟨h1,h2,h3⟩
   ·have hj2:Hid (j=wpo l i):=Lh (by
     have:wr (l.drop j)=l.drop j:=by rw[hcc.out];unfold wr;rw[List.dropWhile_cons_of_neg (by rw[h1];decide)]
     unfold wpo
     rw[←hT.out,this,List.length_drop];omega)
    rcases h2 with rfl|rfl
    ·go_wp2_with fail;go_ret;exact⟨by rw[←hj2.out];rfl,rfl⟩
    ·go_wp2_with fail;go_ret;exact⟨by rw[←hj2.out];rfl,rfl⟩
   ·have v1:=qaJ c 32 32 rfl h2;have v2:=qaJ c 9 9 rfl h3;have v1':((c.toNat:Int) !=32)=true:=by rw[bne,v1];rfl
    have v2':((c.toNat:Int) !=9)=true:=by rw[bne,v2];rfl
    have hT2:Hid (wr (l.drop (j+1))=wr (l.drop i)):=Lh (by rw[←hT.out,hcc.out];unfold wr;rw[List.dropWhile_cons_of_pos h1]);go_wp2_with fail;go_roundg (gk - 1)
    case measure=>omega
    case rel=>exact⟨j+1,by omega,by omega,by omega,by go_num,hT2,rfl⟩
  ·obtain rfl:j=l.length:=by omega
   have u5:decide ((l.length:Int)<((BS l).size:Int))=false:=dF (by omega);have u6:decide (l.length<(BS l).size)=false:=dF (by omega)
   have hj2:Hid (l.length=wpo l i):=Lh (by
    have:wr (l.drop i)=[]:=by rw[←hT.out,List.drop_eq_nil_of_le (Nat.le_refl _)];rfl
    unfold wpo
    rw[this];simp)
   go_wp2_with fail;go_ret;exact⟨by rw[←hj2.out];rfl,rfl⟩
def oth (colon:Bool):UInt8:=if colon then 58 else 95
def qto (c:UInt8):Bool:=decide (97≤(c.toNat:Int))&&decide ((c.toNat:Int)≤122)
def qtk (c:UInt8):Bool:=decide (65≤(c.toNat:Int))&&decide ((c.toNat:Int)≤90)
def qtg (c:UInt8):Bool:=decide (48≤(c.toNat:Int))&&decide ((c.toNat:Int)≤57)
theorem qrY (c:UInt8):qtg c=isD c:=by
 rw[Bool.eq_iff_iff,qaq];unfold qtg;simp only[Bool.and_eq_true,decide_eq_true_eq];omega
theorem qs9 (colon:Bool) (c:UInt8):nch (oth colon) c=(qto c||(qtk c||(qtg c||(((c.toNat:Int)==95)||(((c.toNat:Int)==58)&&colon))))):=by
 unfold nch;rw[qlg,qrY];unfold qto qtk oth;cases colon
 ·simp only[Bool.and_false,Bool.or_false,Bool.false_eq_true,if_false];show(_||_||((c.toNat:Int)==95)||((c.toNat:Int)==95)||isD c)=_;cases (decide (97≤(c.toNat:Int))&&decide ((c.toNat:Int)≤122))<;>cases (decide (65≤(c.toNat:Int))&&decide ((c.toNat:Int)≤90))<;>cases isD c<;>cases ((c.toNat:Int)==95)<;>rfl
 ·simp only[Bool.and_true,if_true];show(_||_||((c.toNat:Int)==95)||((c.toNat:Int)==58)||isD c)=_;cases (decide (97≤(c.toNat:Int))&&decide ((c.toNat:Int)≤122))<;>cases (decide (65≤(c.toNat:Int))&&decide ((c.toNat:Int)≤90))<;>cases isD c<;>cases ((c.toNat:Int)==95)<;>cases ((c.toNat:Int)==58)<;>rfl
theorem qg0 (o:UInt8) (ho:isD o=false) (l:List UInt8):qam o l=(decide (1≤l.length)&&(decide (l.length≤128)&&(!(isD (l.getD 0 0))&&l.all (nch o)))):=by
 unfold qam
 cases l with
 |nil=>rfl
 |cons c t=>
  simp only[List.getD_cons_zero,List.drop_succ_cons,List.drop_zero,List.all_cons,List.length_cons];have e:nmC o t=t.all (nch o):=rfl;rw[e]
  have h:ltr o c=true→isD c=false:=by
   intro h
   cases hd:isD c with
   |false=>rfl
   |true=>
    have hc:=(qaq c).1 hd;unfold ltr at h
    by_cases h2:c=o
    ·subst h2;rw[hd] at ho;cases ho
    ·have: ¬c=95:=by intro e;subst e;revert hc;decide
     simp only[Bool.or_eq_true,Bool.and_eq_true,decide_eq_true_eq,beq_iff_eq] at h;rcases h with ((h|h)|h)|h
     ·omega
     ·omega
     ·exact absurd h this
     ·exact absurd h h2
  unfold nch
  cases hl:ltr o c with
  |true=>rw[h hl];simp[Bool.and_assoc]
  |false=>cases isD c<;>simp
theorem qea (l:List UInt8) (hl:l.length≤1000000000) (col:Bool) (w:World):
 Calls Tryz.prog 136 #[.string (BS l),.bool col] w fun e w'=>e= .returned (.bool (qam (oth col) l))∧Below w.heap.size w w':=by
 have hz:=qad l;have hF:=Lh (qg0 (oth col) (by cases col<;>decide) l);obtain⟨N,hN⟩: ∃N,Hid (N=qam (oth col) l):=⟨_,Lh rfl⟩;rw[←hN.out] at hF⊢
 by_cases h0:l.length=0
 ·have hN0:Hid (N=false):=Lh (by rw[hF.out,h0];rfl);have u1:((l.length:Int)==0)=true:=by rw[h0];rfl
  clear hF;go_enter Tryz.func136,Tryz.ntmps136;go_wp2_with fail;go_ret;exact⟨by rw[hN0.out];rfl,Below.refl _ _⟩
 have u1:((l.length:Int)==0)=false:=by rw[beq_eq_false_iff_ne];omega
 by_cases h128:128<l.length
 ·have hN0:Hid (N=false):=Lh (by rw[hF.out,dF (by omega: ¬l.length≤128)];simp);have u2:decide ((128:Int)<(l.length:Int))=true:=dT (by omega);have u2':decide (128<l.length)=true:=dT (by omega);clear hF;go_enter Tryz.func136,Tryz.ntmps136;go_wp2_with fail;go_ret;exact⟨by rw[hN0.out];rfl,Below.refl _ _⟩
 have u2:decide ((128:Int)<(l.length:Int))=false:=dF (by omega);have u2':decide (128<l.length)=false:=dF (by omega);obtain⟨c0,hc0,hB0⟩:=qbG (BS l) 0 (by rw[hz];omega);have hg0:Hid (l.getD 0 0=c0):=Lh (by rw[←hc0.out,qd5]);clear hc0
 cases hd:isD c0 with
 |true=>
  have hcd:=(qaq c0).1 hd;have hN0:Hid (N=false):=Lh (by rw[hF.out,hg0.out,hd];simp);have v1:decide ((48:Int)≤(c0.toNat:Int))=true:=dT (by omega);have v2:decide ((c0.toNat:Int)≤57)=true:=dT (by omega);have v1':decide (48≤c0.toNat)=true:=dT (by omega);have v2':decide (c0.toNat≤57)=true:=dT (by omega);clear hF;go_enter Tryz.func136,Tryz.ntmps136;go_wp2_with fail;go_ret;exact⟨by rw[hN0.out];rfl,Below.refl _ _⟩
 |false=>
  have hFF:Hid (N=l.all (nch (oth col))):=Lh (by
   rw[hF.out,hg0.out,hd,dT (by omega:1≤l.length),dT (by omega:l.length≤128)];rfl)
  have hcd:c0.toNat<48∨57<c0.toNat:=by
   have h': ¬(48≤c0.toNat∧c0.toNat≤57):=fun h=>by rw[(qaq c0).2 h] at hd;cases hd
   omega
  clear hF hd hg0
  have hx:(decide ((48:Int)≤(c0.toNat:Int))=false∧decide (48≤c0.toNat)=false)∨(decide ((48:Int)≤(c0.toNat:Int))=true∧decide (48≤c0.toNat)=true∧decide ((c0.toNat:Int)≤57)=false∧decide (c0.toNat≤57)=false):=by
   rcases hcd with h|h
   ·exact .inl ⟨dF (by omega),dF (by omega)⟩
   ·exact .inr ⟨dT (by omega),dT (by omega),dF (by omega),dF (by omega)⟩
  clear hcd;rcases hx with ⟨v1,v1'⟩|⟨v1,v1',v2,v2'⟩
  all_goals
   go_enter Tryz.func136,Tryz.ntmps136;go_wp2_with fail;clear hB0;go_loopg [5] (l.length+1) (fun gk s5 wx=> ∃j:Nat,j≤l.length∧l.length - j<gk∧s5= .int .i64 (j:Int)∧Hid (N=(l.drop j).all (nch (oth col)))∧Hid (Below w.heap.size w wx))
   case atStart=>exact⟨0,by omega,by omega,rfl,hFF,Lh (Below.refl _ _)⟩
   case round=>
    obtain⟨j,hj,hgk,rfl,hT,hBw⟩:=hrel;clear hFF;rcases Nat.lt_or_ge j l.length with hlt|hge
    ·have u5:decide ((j:Int)<(l.length:Int))=true:=dT (by omega);have u6:decide (j<l.length)=true:=dT (by omega);obtain⟨c,hc,hB⟩:=qbG (BS l) j (by rw[hz];omega);have hcc:Hid (l.drop j=c::l.drop (j+1)):=Lh (by rw[←hc.out,qd5];exact qaY l j hlt);clear hc;go_upto_region 6 with (fail)
     go_cut [6,7,8] (fun s6 s7 s8 wx=>s6= .bool (qto c)∧s7= .bool (qtk c)∧s8= .bool (qtg c)∧Hid (Below w.heap.size w wx))
     case first=>
      obtain⟨A1,hA1⟩: ∃b,decide ((97:Int)≤(c.toNat:Int))=b:=⟨_,rfl⟩;have gA1:decide (97≤c.toNat)=A1:=(decide_eq_decide.2 (by omega)).trans hA1;obtain⟨A2,hA2⟩: ∃b,decide ((c.toNat:Int)≤122)=b:=⟨_,rfl⟩;have gA2:decide (c.toNat≤122)=A2:=(decide_eq_decide.2 (by omega)).trans hA2;obtain⟨B1,hB1⟩: ∃b,decide ((65:Int)≤(c.toNat:Int))=b:=⟨_,rfl⟩;have gB1:decide (65≤c.toNat)=B1:=(decide_eq_decide.2 (by omega)).trans hB1;obtain⟨B2,hB2⟩: ∃b,decide ((c.toNat:Int)≤90)=b:=⟨_,rfl⟩;have gB2:decide (c.toNat≤90)=B2:=(decide_eq_decide.2 (by omega)).trans hB2;obtain⟨D1,hD1⟩: ∃b,decide ((48:Int)≤(c.toNat:Int))=b:=⟨_,rfl⟩;have gD1:decide (48≤c.toNat)=D1:=(decide_eq_decide.2 (by omega)).trans hD1;obtain⟨D2,hD2⟩: ∃b,decide ((c.toNat:Int)≤57)=b:=⟨_,rfl⟩;have gD2:decide (c.toNat≤57)=D2:=(decide_eq_decide.2 (by omega)).trans hD2;have f1:Hid (qto c=(A1&&A2)):=Lh (by unfold qto;rw[hA1,hA2]);have f2:Hid (qtk c=(B1&&B2)):=Lh (by unfold qtk;rw[hB1,hB2]);have f3:Hid (qtg c=(D1&&D2)):=Lh (by unfold qtg;rw[hD1,hD2]);clear hT hcc hgk;cases A1<;>cases B1<;>cases D1
      all_goals
       go_quiet (fail);go_wp2_with fail;go_meet;exact⟨by rw[f1.out];rfl,by rw[f2.out];rfl,by rw[f3.out];rfl,Lh (bq hBw.out _)⟩
     case rest=>
      obtain⟨rfl,rfl,rfl,hB2⟩:=hcut;have hst:Hid (N=(nch (oth col) c&&(l.drop (j+1)).all (nch (oth col)))):=Lh (by rw[hT.out,hcc.out];rfl);have hnc:=Lh (qs9 col c);obtain⟨x1,e1⟩: ∃b,qto c=b:=⟨_,rfl⟩;obtain⟨x2,e2⟩: ∃b,qtk c=b:=⟨_,rfl⟩;obtain⟨x3,e3⟩: ∃b,qtg c=b:=⟨_,rfl⟩;obtain⟨x4,e4⟩: ∃b,((c.toNat:Int)==95)=b:=⟨_,rfl⟩;obtain⟨x5,e5⟩: ∃b,((c.toNat:Int)==58)=b:=⟨_,rfl⟩;have e4':((c.toNat:Int) !=95)=!x4:=by rw[bne,e4]
      have e5':((c.toNat:Int) !=58)=!x5:=by rw[bne,e5]
      rw[e1,e2,e3,e4,e5] at hnc;rw[e1,e2,e3];clear hT hcc e1 e2 e3
      have key:x1=true∨(x1=false∧(x2=true∨(x2=false∧(x3=true∨(x3=false∧(x4=true∨(x4=false∧((x5=true∧col=true)∨(x5=true∧col=false)∨x5=false)))))))):=by
       cases x1<;>cases x2<;>cases x3<;>cases x4<;>cases x5<;>cases col<;>simp
      rcases key with rfl|⟨rfl,rfl|⟨rfl,rfl|⟨rfl,rfl|⟨rfl,⟨rfl,rfl⟩|⟨rfl,rfl⟩|rfl⟩⟩⟩⟩
      all_goals first
       |(have hN2:Hid (N=(l.drop (j+1)).all (nch (oth _))):=Lh (by rw[hst.out,hnc.out];rfl)
         clear hst hnc;go_wp2_with fail;go_roundg (gk - 1)
         case measure=>omega
         case rel=>exact⟨j+1,by omega,by omega,by go_num,hN2,hB2⟩)
       |(have hN2:Hid (N=false):=Lh (by rw[hst.out,hnc.out];rfl)
         clear hst hnc;go_wp2_with fail;go_ret
         exact⟨by rw[hN2.out];rfl,hB2.out⟩)
    ·obtain rfl:j=l.length:=by omega
     have u5:decide ((l.length:Int)<(l.length:Int))=false:=dF (by omega);have u6:decide (l.length<l.length)=false:=dF (by omega);have hN1:Hid (N=true):=Lh (by rw[hT.out,List.drop_eq_nil_of_le (Nat.le_refl _)];rfl);go_wp2_with fail;go_ret;exact⟨by rw[hN1.out];rfl,hBw.out⟩
def npo (o:UInt8) (l:List UInt8) (i:Nat):Nat:=l.length - (nr o (l.drop i)).length
theorem qiA (o:UInt8) (l:List UInt8) (i:Nat) (hi:i≤l.length):l.drop (npo o l i)=nr o (l.drop i)∧i≤npo o l i∧npo o l i≤l.length:=by
 obtain⟨k1,k2,k3⟩:=qaE (nch o) (l.drop i);obtain⟨h1,h2⟩:=qgp l (nr o (l.drop i)) i ⟨_,k2.symm⟩ hi;exact⟨h1,by unfold npo;omega,Nat.sub_le _ _⟩
theorem qm2 (col:Bool) (c:UInt8):qam (oth col) [97,c]=nch (oth col) c:=by
 rw[qg0 (oth col) (by cases col<;>decide)];have:nch (oth col) 97=true:=by cases col<;>decide
 simp[this];intro _
 decide
theorem qmb (col:Bool) (c:UInt8) (w:World):Calls Tryz.prog 136 #[.string (BS [97,c]),.bool col] w fun e w'=>e= .returned (.bool (nch (oth col) c))∧Below w.heap.size w w':=by
 have:=qea [97,c] (by simp) col w;rwa[qm2] at this
theorem qi5 (l:List UInt8) (hl:l.length≤1000000000) (i:Nat) (hi:i≤l.length) (col:Bool) (w:World):
 Calls Tryz.prog 135 #[.string (BS l),.int .i64 (i:Int),.bool col] w fun e w'=>e= .returned (.int .i64 ((npo (oth col) l i:Nat):Int))∧Below w.heap.size w w':=by
 have hz:=qad l;have kN:=Lh (qmb col);go_enter Tryz.func135,Tryz.ntmps135;go_wp2_with fail;go_loopg [1] (l.length+1) (fun gk s1 wx=> ∃j:Nat,i≤j∧j≤l.length∧l.length - j<gk∧s1= .int .i64 (j:Int)∧Hid (nr (oth col) (l.drop j)=nr (oth col) (l.drop i))∧Hid (Below w.heap.size w wx))
 case atStart=>exact⟨i,Nat.le_refl _,hi,by omega,rfl,Lh rfl,Lh (Below.refl _ _)⟩
 case round=>
  obtain⟨j,hij,hj,hgk,rfl,hT,hBw⟩:=hrel;rcases Nat.lt_or_ge j l.length with hlt|hge
  ·have u5:decide ((j:Int)<(l.length:Int))=true:=dT (by omega);have u6:decide (j<l.length)=true:=dT (by omega);obtain⟨c,hc⟩: ∃c,Hid (l.getD j 0=c):=⟨_,Lh rfl⟩;have hcc:Hid (l.drop j=c::l.drop (j+1)):=Lh (by rw[←hc.out];exact qaY l j hlt)
   have hex:(⟨#[97]⟩:ByteArray)++(BS l).extract j (j+1)=BS [97,c]:=by
    apply qbm;have h2:(l.drop j).take 1=[c]:=by rw[hcc.out];rfl
    have h3:(l.take (j+1)).drop j=[c]:=by rw[←h2,List.take_drop,Nat.add_comm]
    simp[BS,h3,h2]
   clear hc;go_wp2_with fail;refine(kN.out c _).mono ?_;rintro e w1 ⟨rfl,Bx⟩;have B1:=Lh (hBw.out.trans (Bx.mono hBw.out.size));clear Bx hBw hex
   cases hn:nch (oth col) c with
   |true=>
    have hT2:Hid (nr (oth col) (l.drop (j+1))=nr (oth col) (l.drop i)):=Lh (by rw[←hT.out,hcc.out];unfold nr;rw[List.dropWhile_cons_of_pos hn]);clear hn;go_wp2_with fail;go_roundg (gk - 1)
    case measure=>omega
    case rel=>exact⟨j+1,by omega,by omega,by omega,by go_num,hT2,B1⟩
   |false=>
    have hj2:Hid (j=npo (oth col) l i):=Lh (by
     have:nr (oth col) (l.drop j)=l.drop j:=by rw[hcc.out];unfold nr;rw[List.dropWhile_cons_of_neg (by rw[hn];decide)]
     unfold npo
     rw[←hT.out,this,List.length_drop];omega)
    clear hn;go_wp2_with fail;go_ret;exact⟨by rw[←hj2.out];rfl,B1.out⟩
  ·obtain rfl:j=l.length:=by omega
   have u5:decide ((l.length:Int)<(l.length:Int))=false:=dF (by omega);have u6:decide (l.length<l.length)=false:=dF (by omega)
   have hj2:Hid (l.length=npo (oth col) l i):=Lh (by
    have:nr (oth col) (l.drop i)=[]:=by rw[←hT.out,List.drop_eq_nil_of_le (Nat.le_refl _)];rfl
    unfold npo
    rw[this];simp)
   go_wp2_with fail;go_ret;exact⟨by rw[←hj2.out];rfl,hBw.out⟩
theorem qgK (l:List UInt8) (hl:l.length≤1000000000) (w:World):
 Calls Tryz.prog 191 #[.string (BS l)] w fun e w'=>e= .returned (.bool (qa9 l))∧Below w.heap.size w w':=by
 have hz:=qad l
 by_cases h:l.length≤1024
 ·have u1:decide ((1024:Int)<(l.length:Int))=false:=dF (by omega);have u2:decide (1024<l.length)=false:=dF (by omega);have c:=L.rcheck_any (BS l) (by rw[hz];omega) w;have hF:Hid (qa9 l=((L.ck (BS l)).2==0)):=Lh (by unfold qa9 BS;rw[dT h];rfl);obtain⟨r,hr⟩: ∃r,L.ck (BS l)=r:=⟨_,rfl⟩;rw[hr] at c hF;obtain⟨r1,r2⟩:=r;clear hr;go_enter Tryz.func191,Tryz.ntmps191;go_wp2_with fail;refine c.mono ?_;rintro x w1 ⟨rfl,hb⟩;replace hb:=Lh hb;clear c;go_wp2_with fail;go_ret;exact⟨by rw[hF.out];rfl,hb.out⟩
 ·have u1:decide ((1024:Int)<(l.length:Int))=true:=dT (by omega);have u2:decide (1024<l.length)=true:=dT (by omega);have hF:Hid (qa9 l=false):=Lh (by unfold qa9;rw[dF h];rfl);go_enter Tryz.func191,Tryz.ntmps191;go_wp2_with fail;go_ret;exact⟨by rw[hF.out];rfl,Below.refl _ _⟩
theorem qpE (x:Lb) (h1:x.1.length≤1000000000) (h2:x.2.length≤1000000000) (w:World):
 Calls Tryz.prog 194 #[.agg #[.string (BS x.1),.string (BS x.2)]] w fun e w'=>e= .returned (.int .i64 (qcI x))∧Below w.heap.size w w':=by
 have k1:=Lh (qea x.1 h1 false);have k2:=Lh (qgK x.2 h2);rw[show oth false=95 from rfl] at k1;have hR:Hid (qcI x=if qam 95 x.1=true then (if qa9 x.2=true then 0 else 41) else 40):=Lh rfl;obtain⟨a,ha⟩: ∃a,qam 95 x.1=a:=⟨_,rfl⟩;obtain⟨b,hb⟩: ∃b,qa9 x.2=b:=⟨_,rfl⟩;rw[ha] at k1 hR;rw[hb] at k2 hR;obtain⟨s1,hs1⟩: ∃s,Hid (s=BS x.1):=⟨_,Lh rfl⟩;obtain⟨s2,hs2⟩: ∃s,Hid (s=BS x.2):=⟨_,Lh rfl⟩;rw[←hs1.out] at k1⊢;rw[←hs2.out] at k2⊢;have hB:=Lh ((Below.refl w.heap.size w).alloc (Nat.le_refl _) (.cells #[.string s1,.string s2] 44))
 have hc1:Hid (∀W,Below (w.alloc (.cells #[.string s1,.string s2] 44)).heap.size (w.alloc (.cells #[.string s1,.string s2] 44)) W→W.cell? ⟨w.heap.size,1,none⟩=some (.string s2)):=Lh (fun W h=>by
  rw[h.cell (p:=⟨w.heap.size,1,none⟩) (Nat.lt_of_lt_of_eq (Nat.lt_succ_self _) (by simp)),Lib.cell_of_heap (World.alloc_heap_new w _)];rfl)
 clear ha hb;go_enter Tryz.func194,Tryz.ntmps194;go_wp2_with fail;refine(k1.out _).mono ?_;rintro e w1 ⟨rfl,B1⟩;have d1:=hc1.out w1 B1;have B2:=Lh (hB.out.trans (B1.mono hB.out.size));clear B1 hc1 k1
 cases a with
 |false=>
  go_wp2_with fail;go_ret;exact⟨by rw[hR.out];rfl,B2.out⟩
 |true=>
  go_wp2_with fail;refine(k2.out _).mono ?_;rintro e w3 ⟨rfl,B3⟩;have B4:=Lh (B2.out.trans (B3.mono B2.out.size));clear B3 B2
  cases b with
  |false=>
   go_wp2_with fail;go_ret;exact⟨by rw[hR.out];rfl,B4.out⟩
  |true=>
   go_wp2_with fail;go_ret;exact⟨by rw[hR.out];rfl,B4.out⟩
theorem qmt (n:Nat) (a:Option Addr) (c:Nat) (hn:n≤1000000000) (w:World):Calls Tryz.prog 197 #[.slice a n c] w fun e w'=>
 e= .returned (if 64<n then .tuple #[.slice none 0 0,.int .i64 5] else .tuple #[.slice a n c,.int .i64 0])∧w=w':=by
 by_cases h:64<n
 ·have u1:decide ((64:Int)<(n:Int))=true:=dT (by omega);have u2:decide (64<n)=true:=dT h;rw[if_pos h];go_enter Tryz.func197,Tryz.ntmps197;go_wp2_with fail;go_ret2;exact⟨rfl,rfl⟩
 ·have u1:decide ((64:Int)<(n:Int))=false:=dF (by omega);have u2:decide (64<n)=false:=dF h;rw[if_neg h];go_enter Tryz.func197,Tryz.ntmps197;go_wp2_with fail;go_ret2;exact⟨rfl,rfl⟩
theorem qeU (l:List UInt8) (i j:Nat):(BS l).extract i j=BS ((l.drop i).take (j - i)):=by
 apply qbm;simp[BS,List.take_drop]
theorem qex (l:List UInt8) (i:Nat) (hi:i≤l.length):(l.drop i).take (wpo l i - i)=wd (l.drop i):=by
 obtain⟨k1,k2,k3⟩:=qaE nb (l.drop i)
 have h1:(wr (l.drop i)).length=(l.drop i).length - (wd (l.drop i)).length:=by
  unfold wr wd;rw[←k2,List.length_drop]
 have:wpo l i - i=(wd (l.drop i)).length:=by
  unfold wpo;rw[h1];have:(wd (l.drop i)).length≤(l.drop i).length:=k3;rw[List.length_drop] at this⊢;omega
 rw[this];exact k1
theorem qmu (o:UInt8) (l:List UInt8) (i:Nat) (hi:i≤l.length):(l.drop i).take (npo o l i - i)=nm o (l.drop i):=by
 obtain⟨k1,k2,k3⟩:=qaE (nch o) (l.drop i)
 have h1:(nr o (l.drop i)).length=(l.drop i).length - (nm o (l.drop i)).length:=by
  unfold nr nm;rw[←k2,List.length_drop]
 have:npo o l i - i=(nm o (l.drop i)).length:=by
  unfold npo;rw[h1];have:(nm o (l.drop i)).length≤(l.drop i).length:=k3;rw[List.length_drop] at this⊢;omega
 rw[this];exact k1
theorem qn8 (l:List UInt8) (hl:l.length≤1000000000) (w:World):Calls Tryz.prog 78 #[.string (BS l)] w fun e w'=>e= .returned (.string (qsD (kindN l)))∧w=w':=by
 have hz:=qad l;obtain⟨k,hk⟩: ∃k,Hid (k=kindN l):=⟨_,Lh rfl⟩;have hk2:=hk.out;rw[←hk2];unfold kindN at hk2;obtain⟨p1,p2,p3⟩:=qaK l 0 (Nat.zero_le _);have c1:=Lh (qa8 l hl 0 (Nat.zero_le _));obtain⟨p,hp⟩: ∃p,skp l 0=p:=⟨_,rfl⟩;rw[hp] at p1 p2 p3 c1;rw[List.drop_zero] at p1;clear hp hk p2;rcases Nat.lt_or_ge p l.length with hlt|hge
 ·have e1:(((p:Nat):Int)==(l.length:Int))=false:=by rw[beq_eq_false_iff_ne];omega
  obtain⟨c,hc,hB⟩:=qbG (BS l) p (by rw[hz];omega);have hcc:Hid (tb l=c::l.drop (p+1)):=Lh (by rw[←p1,←hc.out,qd5];exact qaY l p hlt);clear hc;rw[hcc.out] at hk2;rw[if_neg (by simp)] at hk2
  by_cases h35:c=35
  ·subst h35;rw[if_pos (by rfl)] at hk2;rw[List.tail_cons] at hk2;obtain⟨q1,q2,q3⟩:=qaK l (p+1) (by omega);have c2:=Lh (qa8 l hl (p+1) (by omega));rw[show((p+1:Nat):Int)=(p:Int)+1 by omega] at c2;obtain⟨q,hq⟩: ∃q,skp l (p+1)=q:=⟨_,rfl⟩;rw[hq] at q1 q2 q3 c2;obtain⟨r1,r2,r3⟩:=qcz l q q3;have c3:=Lh (qdr l hl q q3);have r4:=qex l q q3;obtain⟨r,hr⟩: ∃r,wpo l q=r:=⟨_,rfl⟩;rw[hr] at r1 r2 r3 r4 c3;have hx:=qeU l q r;rw[r4] at hx;rw[←q1] at hk2;clear p1 q1 r1 r4 hr hq hcc;generalize wd (l.drop q)=v at hk2 hx;have tv:=qaa v;go_enter Tryz.func78,Tryz.ntmps78;go_wp2_with fail;refine(c1.out _).mono ?_;rintro e w1 ⟨rfl,rfl⟩;go_wp2_with fail;refine(c2.out _).mono ?_;rintro e w1 ⟨rfl,rfl⟩;go_wp2_with fail;refine(c3.out _).mono ?_;rintro e w1 ⟨rfl,rfl⟩;clear c1 c2 c3
   by_cases h1:v=qh3
   ·rw[if_pos h1] at hk2;subst hk2 h1;unfold qh3 at tv hx;go_wp2_with fail;go_ret;exact⟨rfl,rfl⟩
   ·rw[if_neg h1] at hk2;unfold qh3 at h1;have h1':(v==([72,69,76,80]:List UInt8))=false:=by simpa using h1
    by_cases h2:v=qip
    ·rw[if_pos h2] at hk2;subst hk2 h2;unfold qip at tv hx h1' h1;go_wp2_with fail;go_ret;exact⟨rfl,rfl⟩
    ·rw[if_neg h2] at hk2;unfold qip at h2;have h2':(v==([84,89,80,69]:List UInt8))=false:=by simpa using h2
     subst hk2;go_wp2_with fail;go_ret;exact⟨rfl,rfl⟩
  ·have hh:(some c==some (35:UInt8))=false:=by simpa using h35
   rw[List.head?_cons,hh,if_neg (by simp)] at hk2;subst hk2;have v1:=qaJ c 35 35 rfl h35;have v1':((c.toNat:Int) !=35)=true:=by rw[bne,v1];rfl
   go_enter Tryz.func78,Tryz.ntmps78;go_wp2_with fail;refine(c1.out _).mono ?_;rintro e w1 ⟨rfl,rfl⟩;go_wp2_with fail;go_ret;exact⟨rfl,rfl⟩
 ·obtain rfl:p=l.length:=by omega
  have e1:(((l.length:Nat):Int)==(l.length:Int))=true:=by simp
  have:tb l=[]:=by rw[←p1];exact List.drop_eq_nil_of_le (Nat.le_refl _)
  rw[if_pos this] at hk2;subst hk2;clear p1 this;go_enter Tryz.func78,Tryz.ntmps78;go_wp2_with fail;refine(c1.out _).mono ?_;rintro e w1 ⟨rfl,rfl⟩;go_wp2_with fail;go_ret;exact⟨rfl,rfl⟩
theorem qor (c:UInt8) (a b:List UInt8):ltB (c::a) (c::b)=ltB a b:=by
 rw[Bool.eq_iff_iff,qdB,qdB,List.cons_lt_cons_iff];constructor
 ·rintro(h|⟨_,h⟩)
  ·exact absurd h (by simp)
  ·exact h
 ·exact fun h=> .inr ⟨rfl,h⟩
theorem qpm (c d:UInt8) (a b:List UInt8) (h:c≠d):ltB (c::a) (d::b)=decide ((c.toNat:Int)<(d.toNat:Int)):=by
 rw[Bool.eq_iff_iff,qdB,List.cons_lt_cons_iff,decide_eq_true_eq];constructor
 ·rintro(h1|⟨h1,_⟩)
  ·have:c.toNat<d.toNat:=h1;omega
  ·exact absurd h1 h
 ·intro h1;exact .inl (show c.toNat<d.toNat by omega)
theorem qle (a b:List UInt8) (h:a=[]∨b=[]):ltB a b=decide (a.length<b.length):=by
 rw[Bool.eq_iff_iff,qdB,decide_eq_true_eq]
 cases a with
 |nil=>
  cases b with
  |nil=>simp
  |cons d t=>simp
 |cons c s=>
  cases b with
  |nil=>simp
  |cons d t=>simp at h
theorem qnW (a b:List UInt8) (ha:a.length≤1000000000) (hb:b.length≤1000000000) (w:World):
 Calls Tryz.prog 248 #[.string (BS a),.string (BS b)] w fun e w'=>e= .returned (.bool (ltB a b))∧ ∃m,w'=w.drewN m:=by
 have hza:=qad a;have hzb:=qad b;obtain⟨L,hL⟩: ∃L,Hid (L=ltB a b):=⟨_,Lh rfl⟩;rw[←hL.out];go_enter Tryz.func248,Tryz.ntmps248;go_wp2_with fail;go_loopg [5] (a.length+1) (fun gk s5 wx=> ∃i:Nat,i≤a.length∧i≤b.length∧a.length - i<gk∧s5= .int .i64 (i:Int)∧Hid (L=ltB (a.drop i) (b.drop i))∧Hid (∃m,wx=w.drewN m))
 case atStart=>exact⟨0,by omega,by omega,by omega,rfl,hL,Lh ⟨0,rfl⟩⟩
 case round=>
  clear hL;obtain⟨i,hia,hib,hgk,rfl,hI,hM⟩:=hrel;obtain⟨m,rfl⟩:=hM.out
  by_cases h1:i<a.length
  ·have u1:decide ((i:Int)<(a.length:Int))=true:=dT (by omega);have u1':decide (i<a.length)=true:=dT h1
   by_cases h2:i<b.length
   ·have u2:decide ((i:Int)<(b.length:Int))=true:=dT (by omega);have u2':decide (i<b.length)=true:=dT h2;obtain⟨c,hc,hB⟩:=qbG (BS a) i (by rw[hza];exact h1);obtain⟨d,hd,hD⟩:=qbG (BS b) i (by rw[hzb];exact h2);have hcc:Hid (a.drop i=c::a.drop (i+1)):=Lh (by rw[←hc.out,qd5];exact qaY a i h1);have hdd:Hid (b.drop i=d::b.drop (i+1)):=Lh (by rw[←hd.out,qd5];exact qaY b i h2);clear hc hd
    by_cases hcd:c=d
    ·subst hcd;have hI2:Hid (L=ltB (a.drop (i+1)) (b.drop (i+1))):=Lh (by rw[hI.out,hcc.out,hdd.out,qor]);have n1:((c.toNat:Int) !=(c.toNat:Int))=false:=by simp
     clear hI hcc hdd;go_upto_region 4 with (fail)
     go_quiet (fail);go_wp2_with fail;go_roundg (gk - 1)
     case measure=>omega
     case rel=>exact⟨i+1,by omega,by omega,by omega,by go_num,hI2,Lh ⟨_,rfl⟩⟩
    ·have hI2:Hid (L=decide ((c.toNat:Int)<(d.toNat:Int))):=Lh (by rw[hI.out,hcc.out,hdd.out,qpm c d _ _ hcd])
     have n1:((c.toNat:Int) !=(d.toNat:Int))=true:=by
      rw[bne_iff_ne];intro e;apply hcd;apply UInt8.toNat_inj.1;omega
     clear hI hcc hdd hcd
     cases hlt:decide ((c.toNat:Int)<(d.toNat:Int))with
     |true=>
      rw[hlt] at hI2;have hlt':decide (c.toNat<d.toNat)=true:=by rw[←hlt];exact decide_eq_decide.2 (by omega)
      go_upto_region 4 with (fail)
      go_quiet (fail);go_upto_region 5 with (fail)
      go_quiet (fail);go_wp2_with fail;go_ret;exact⟨by rw[hI2.out];rfl,_,by rw[World.drewN_drewN,World.drewN_drewN]⟩
     |false=>
      rw[hlt] at hI2;have hlt':decide (c.toNat<d.toNat)=false:=by rw[←hlt];exact decide_eq_decide.2 (by omega)
      go_upto_region 4 with (fail)
      go_quiet (fail);go_upto_region 5 with (fail)
      go_quiet (fail);go_wp2_with fail;go_ret;exact⟨by rw[hI2.out];rfl,_,by rw[World.drewN_drewN,World.drewN_drewN]⟩
   ·obtain rfl:i=b.length:=by omega
    have u2:decide ((b.length:Int)<(b.length:Int))=false:=dF (by omega);have u2':decide (b.length<b.length)=false:=dF (by omega);have hF:Hid (L=false):=Lh (by rw[hI.out,qle _ _ (.inr (List.drop_of_length_le (Nat.le_refl _))),dF (by rw[List.length_drop,List.length_drop];omega)]);have u3:decide ((a.length:Int)<(b.length:Int))=false:=dF (by omega);have u3':decide (a.length<b.length)=false:=dF (by omega);go_wp2_with fail;go_ret;exact⟨by rw[hF.out];rfl,_,rfl⟩
  ·obtain rfl:i=a.length:=by omega
   have u1:decide ((a.length:Int)<(a.length:Int))=false:=dF (by omega);have u1':decide (a.length<a.length)=false:=dF (by omega)
   have hF:Hid (L=decide (a.length<b.length)):=Lh (by
    rw[hI.out,qle _ _ (.inl (List.drop_of_length_le (Nat.le_refl _)))]
    exact decide_eq_decide.2 (by rw[List.length_drop,List.length_drop];omega))
   by_cases h3:a.length<b.length
   ·have u3:decide ((a.length:Int)<(b.length:Int))=true:=dT (by omega);have u3':decide (a.length<b.length)=true:=dT h3;rw[u3'] at hF;go_wp2_with fail;go_ret;exact⟨by rw[hF.out];rfl,_,rfl⟩
   ·have u3:decide ((a.length:Int)<(b.length:Int))=false:=dF (by omega);have u3':decide (a.length<b.length)=false:=dF h3;rw[u3'] at hF;go_wp2_with fail;go_ret;exact⟨by rw[hF.out];rfl,_,rfl⟩
theorem qne (n:List UInt8) (ls:List Lb) (i:Nat) (h:i<ls.length):qcn n (ls.drop i) i=if (ls.getD i lb0).1=n then (i:Int) else qcn n (ls.drop (i+1)) (i+1):=by
 rw[qe3 ls i h,qcn]
theorem qrz (v:Value) (ls:List Lb) (n:List UInt8) (hl:ls.length≤1000000000) (w:World) (hr:qaI w v ls):
 Calls Tryz.prog 195 #[v,.string (BS n)] w fun e w'=>e= .returned (.int .i64 (qcn n ls 0))∧w=w':=by
 obtain⟨a,c,rfl⟩:=hr.shape;have hrh:=Lh hr;clear hr;obtain⟨G,hG⟩: ∃G,Hid (G=qcn n ls 0):=⟨_,Lh rfl⟩;rw[←hG.out];obtain⟨m,hm⟩: ∃m,m=ls.length:=⟨_,rfl⟩;have hmh:=Lh hm;rw[←hm] at hl⊢;clear hm;go_enter Tryz.func195,Tryz.ntmps195;go_wp2_with fail;go_loopg [5] (m+1) (fun gk s5 wx=> ∃i:Nat,i≤m∧m - i<gk∧s5= .int .i64 (i:Int)∧Hid (G=qcn n (ls.drop i) i)∧w=wx)
 case atStart=>exact⟨0,by omega,by omega,rfl,hG,rfl⟩
 case round=>
  clear hG;obtain⟨i,hi,hgk,rfl,hI,rfl⟩:=hrel
  by_cases hlt:i<m
  ·have u2:decide ((i:Int)<(m:Int))=true:=dT (by omega);have u3:decide (i<m)=true:=dT hlt;have hil:i<ls.length:=by rw[←hmh.out];exact hlt
   obtain⟨b,off,rfl,hbl,x1,x2⟩:=hrh.out.at' i hil;have hI2:=hI.out;rw[qne n ls i hil] at hI2;obtain⟨x,hx⟩: ∃x,Hid (x=ls.getD i lb0):=⟨_,Lh rfl⟩;rw[←hx.out] at x1 x2 hI2;have he:((BS x.1).toList==(BS n).toList)=(x.1==n):=by rw[qaa,qaa]
   by_cases hxn:x.1=n
   ·rw[if_pos hxn] at hI2;have hR:=Lh hI2;have he2:((BS x.1).toList==(BS n).toList)=true:=by rw[he,hxn];exact beq_self_eq_true _
    clear he hxn hI hI2;go_wp2_with fail;go_ret;exact⟨by rw[hR.out];rfl,rfl⟩
   ·rw[if_neg hxn] at hI2;have hR:=Lh hI2;have he2:((BS x.1).toList==(BS n).toList)=false:=by rw[he,beq_eq_false_iff_ne];exact hxn
    clear he hxn hI hI2;go_wp2_with fail;go_roundg (gk - 1)
    case measure=>omega
    case rel=>exact⟨i+1,by omega,by omega,by go_num,hR,rfl⟩
  ·obtain rfl:i=m:=by omega
   have u2:decide ((i:Int)<(i:Int))=false:=dF (by omega);have hF:Hid (G= -1):=Lh (by rw[hI.out,List.drop_of_length_le (by rw[←hmh.out];exact Nat.le_refl _)];rfl);clear hI;go_wp2_with fail;go_ret;exact⟨by rw[hF.out];rfl,rfl⟩
end Go.Proofs.YtdeimnnpcfncpaaGreatDoor.X
