/- Parts of the proof: S1 S2 S4 S6 SW1. -/
import Derived.Test.YtdeimnnpcfncpaaGreatDoorCX44
import Derived.Test.YtdeimnnpcfncpaaGreatDoorCX45
set_option linter.unusedVariables false
set_option linter.unusedSimpArgs false
set_option maxRecDepth 100000
set_option maxHeartbeats 64000000
namespace Go.Proofs.YtdeimnnpcfncpaaGreatDoor.X
open Go Go.RowKit
theorem qfm (l:List UInt8) (i:Nat) (h:i<l.length):l.drop i=l.getD i 0::l.drop (i+1):=by
 rw[List.drop_eq_getElem_cons h];simp[List.getD_eq_getElem?_getD,List.getElem?_eq_getElem h]
theorem qmw (l:List UInt8) (i:Nat):bt (BS l) i=l.getD i 0:=by
 unfold bt BS;simp
def oth (colon:Bool):UInt8:=if colon then 58 else 95
def qrD (c:UInt8):Bool:=decide (97≤(c.toNat:Int))&&decide ((c.toNat:Int)≤122)
def qrE (c:UInt8):Bool:=decide (65≤(c.toNat:Int))&&decide ((c.toNat:Int)≤90)
def qpX (c:UInt8):Bool:=decide (48≤(c.toNat:Int))&&decide ((c.toNat:Int)≤57)
theorem qrx (c:UInt8):qpX c=isD c:=by
 rw[Bool.eq_iff_iff,qaA];unfold qpX;simp only[Bool.and_eq_true,decide_eq_true_eq];omega
theorem qqe (colon:Bool) (c:UInt8):nch (oth colon) c=(qrD c||(qrE c||(qpX c||(((c.toNat:Int)==95)||(((c.toNat:Int)==58)&&colon))))):=by
 unfold nch;rw[qlO,qrx];unfold qrD qrE oth;cases colon
 ·simp only[Bool.and_false,Bool.or_false,Bool.false_eq_true,if_false];show(_||_||((c.toNat:Int)==95)||((c.toNat:Int)==95)||isD c)=_;cases (decide (97≤(c.toNat:Int))&&decide ((c.toNat:Int)≤122))<;>cases (decide (65≤(c.toNat:Int))&&decide ((c.toNat:Int)≤90))<;>cases isD c<;>cases ((c.toNat:Int)==95)<;>rfl
 ·simp only[Bool.and_true,if_true];show(_||_||((c.toNat:Int)==95)||((c.toNat:Int)==58)||isD c)=_;cases (decide (97≤(c.toNat:Int))&&decide ((c.toNat:Int)≤122))<;>cases (decide (65≤(c.toNat:Int))&&decide ((c.toNat:Int)≤90))<;>cases isD c<;>cases ((c.toNat:Int)==95)<;>cases ((c.toNat:Int)==58)<;>rfl
theorem ql5 (o:UInt8) (ho:isD o=false) (l:List UInt8):qan o l=(decide (1≤l.length)&&(decide (l.length≤128)&&(!(isD (l.getD 0 0))&&l.all (nch o)))):=by
 unfold qan
 cases l with
 |nil=>rfl
 |cons c t=>
  simp only[List.getD_cons_zero,List.drop_succ_cons,List.drop_zero,List.all_cons,List.length_cons];have e:nmC o t=t.all (nch o):=rfl;rw[e]
  have h:ltr o c=true→isD c=false:=by
   intro h
   cases hd:isD c with
   |false=>rfl
   |true=>
    have hc:=(qaA c).1 hd;unfold ltr at h
    by_cases h2:c=o
    ·subst h2;rw[hd] at ho;cases ho
    ·have: ¬c=95:=by intro e;subst e;revert hc;decide
     simp only[Bool.or_eq_true,Bool.and_eq_true,decide_eq_true_eq,beq_iff_eq] at h;rcases h with ((h|h)|h)|h
     ·omega
     ·omega
     ·exact absurd h this
     ·exact absurd h h2
  unfold nch
  cases hl:ltr o c with
  |true=>rw[h hl];simp[Bool.and_assoc]
  |false=>cases isD c<;>simp
theorem qhS (l:List UInt8) (hl:l.length≤1000000000) (col:Bool) (w:World):
 Calls Tryz.prog 136 #[.string (BS l),.bool col] w fun e w'=>e= .returned (.bool (qan (oth col) l))∧Below w.heap.size w w':=by
 have hz:=qac l;have hF:=Lh (ql5 (oth col) (by cases col<;>decide) l);obtain⟨N,hN⟩: ∃N,Hid (N=qan (oth col) l):=⟨_,Lh rfl⟩;rw[←hN.out] at hF⊢
 by_cases h0:l.length=0
 ·have hN0:Hid (N=false):=Lh (by rw[hF.out,h0];rfl);have u1:((l.length:Int)==0)=true:=by rw[h0];rfl
  clear hF;go_enter Tryz.func136,Tryz.ntmps136;go_wp2_with fail;go_ret;exact⟨by rw[hN0.out];rfl,Below.refl _ _⟩
 have u1:((l.length:Int)==0)=false:=by rw[beq_eq_false_iff_ne];omega
 by_cases h128:128<l.length
 ·have hN0:Hid (N=false):=Lh (by rw[hF.out,dF (by omega: ¬l.length≤128)];simp);have u2:decide ((128:Int)<(l.length:Int))=true:=dT (by omega);have u2':decide (128<l.length)=true:=dT (by omega);clear hF;go_enter Tryz.func136,Tryz.ntmps136;go_wp2_with fail;go_ret;exact⟨by rw[hN0.out];rfl,Below.refl _ _⟩
 have u2:decide ((128:Int)<(l.length:Int))=false:=dF (by omega);have u2':decide (128<l.length)=false:=dF (by omega);obtain⟨c0,hc0,hB0⟩:=qc0 (BS l) 0 (by rw[hz];omega);have hg0:Hid (l.getD 0 0=c0):=Lh (by rw[←hc0.out,qmw]);clear hc0
 cases hd:isD c0 with
 |true=>
  have hcd:=(qaA c0).1 hd;have hN0:Hid (N=false):=Lh (by rw[hF.out,hg0.out,hd];simp);have v1:decide ((48:Int)≤(c0.toNat:Int))=true:=dT (by omega);have v2:decide ((c0.toNat:Int)≤57)=true:=dT (by omega);have v1':decide (48≤c0.toNat)=true:=dT (by omega);have v2':decide (c0.toNat≤57)=true:=dT (by omega);clear hF;go_enter Tryz.func136,Tryz.ntmps136;go_wp2_with fail;go_ret;exact⟨by rw[hN0.out];rfl,Below.refl _ _⟩
 |false=>
  have hFF:Hid (N=l.all (nch (oth col))):=Lh (by
   rw[hF.out,hg0.out,hd,dT (by omega:1≤l.length),dT (by omega:l.length≤128)];rfl)
  have hcd:c0.toNat<48∨57<c0.toNat:=by
   have h': ¬(48≤c0.toNat∧c0.toNat≤57):=fun h=>by rw[(qaA c0).2 h] at hd;cases hd
   omega
  clear hF hd hg0
  have hx:(decide ((48:Int)≤(c0.toNat:Int))=false∧decide (48≤c0.toNat)=false)∨(decide ((48:Int)≤(c0.toNat:Int))=true∧decide (48≤c0.toNat)=true∧decide ((c0.toNat:Int)≤57)=false∧decide (c0.toNat≤57)=false):=by
   rcases hcd with h|h
   ·exact .inl ⟨dF (by omega),dF (by omega)⟩
   ·exact .inr ⟨dT (by omega),dT (by omega),dF (by omega),dF (by omega)⟩
  clear hcd;rcases hx with ⟨v1,v1'⟩|⟨v1,v1',v2,v2'⟩
  all_goals
   go_enter Tryz.func136,Tryz.ntmps136;go_wp2_with fail;clear hB0;go_loopg [5] (l.length+1) (fun gk s5 wx=> ∃j:Nat,j≤l.length∧l.length - j<gk∧s5= .int .i64 (j:Int)∧Hid (N=(l.drop j).all (nch (oth col)))∧Hid (Below w.heap.size w wx))
   case atStart=>exact⟨0,by omega,by omega,rfl,hFF,Lh (Below.refl _ _)⟩
   case round=>
    obtain⟨j,hj,hgk,rfl,hT,hBw⟩:=hrel;clear hFF;rcases Nat.lt_or_ge j l.length with hlt|hge
    ·have u5:decide ((j:Int)<(l.length:Int))=true:=dT (by omega);have u6:decide (j<l.length)=true:=dT (by omega);obtain⟨c,hc,hB⟩:=qc0 (BS l) j (by rw[hz];omega);have hcc:Hid (l.drop j=c::l.drop (j+1)):=Lh (by rw[←hc.out,qmw];exact qfm l j hlt);clear hc;go_upto_region 6 with (fail)
     go_cut [6,7,8] (fun s6 s7 s8 wx=>s6= .bool (qrD c)∧s7= .bool (qrE c)∧s8= .bool (qpX c)∧Hid (Below w.heap.size w wx))
     case first=>
      obtain⟨A1,hA1⟩: ∃b,decide ((97:Int)≤(c.toNat:Int))=b:=⟨_,rfl⟩;have gA1:decide (97≤c.toNat)=A1:=(decide_eq_decide.2 (by omega)).trans hA1;obtain⟨A2,hA2⟩: ∃b,decide ((c.toNat:Int)≤122)=b:=⟨_,rfl⟩;have gA2:decide (c.toNat≤122)=A2:=(decide_eq_decide.2 (by omega)).trans hA2;obtain⟨B1,hB1⟩: ∃b,decide ((65:Int)≤(c.toNat:Int))=b:=⟨_,rfl⟩;have gB1:decide (65≤c.toNat)=B1:=(decide_eq_decide.2 (by omega)).trans hB1;obtain⟨B2,hB2⟩: ∃b,decide ((c.toNat:Int)≤90)=b:=⟨_,rfl⟩;have gB2:decide (c.toNat≤90)=B2:=(decide_eq_decide.2 (by omega)).trans hB2;obtain⟨D1,hD1⟩: ∃b,decide ((48:Int)≤(c.toNat:Int))=b:=⟨_,rfl⟩;have gD1:decide (48≤c.toNat)=D1:=(decide_eq_decide.2 (by omega)).trans hD1;obtain⟨D2,hD2⟩: ∃b,decide ((c.toNat:Int)≤57)=b:=⟨_,rfl⟩;have gD2:decide (c.toNat≤57)=D2:=(decide_eq_decide.2 (by omega)).trans hD2;have f1:Hid (qrD c=(A1&&A2)):=Lh (by unfold qrD;rw[hA1,hA2]);have f2:Hid (qrE c=(B1&&B2)):=Lh (by unfold qrE;rw[hB1,hB2]);have f3:Hid (qpX c=(D1&&D2)):=Lh (by unfold qpX;rw[hD1,hD2]);clear hT hcc hgk;cases A1<;>cases B1<;>cases D1
      all_goals
       go_quiet (fail);go_wp2_with fail;go_meet;exact⟨by rw[f1.out];rfl,by rw[f2.out];rfl,by rw[f3.out];rfl,Lh (bq hBw.out _)⟩
     case rest=>
      obtain⟨rfl,rfl,rfl,hB2⟩:=hcut;have hst:Hid (N=(nch (oth col) c&&(l.drop (j+1)).all (nch (oth col)))):=Lh (by rw[hT.out,hcc.out];rfl);have hnc:=Lh (qqe col c);obtain⟨x1,e1⟩: ∃b,qrD c=b:=⟨_,rfl⟩;obtain⟨x2,e2⟩: ∃b,qrE c=b:=⟨_,rfl⟩;obtain⟨x3,e3⟩: ∃b,qpX c=b:=⟨_,rfl⟩;obtain⟨x4,e4⟩: ∃b,((c.toNat:Int)==95)=b:=⟨_,rfl⟩;obtain⟨x5,e5⟩: ∃b,((c.toNat:Int)==58)=b:=⟨_,rfl⟩;have e4':((c.toNat:Int) !=95)=!x4:=by rw[bne,e4]
      have e5':((c.toNat:Int) !=58)=!x5:=by rw[bne,e5]
      rw[e1,e2,e3,e4,e5] at hnc;rw[e1,e2,e3];clear hT hcc e1 e2 e3
      have key:x1=true∨(x1=false∧(x2=true∨(x2=false∧(x3=true∨(x3=false∧(x4=true∨(x4=false∧((x5=true∧col=true)∨(x5=true∧col=false)∨x5=false)))))))):=by
       cases x1<;>cases x2<;>cases x3<;>cases x4<;>cases x5<;>cases col<;>simp
      rcases key with rfl|⟨rfl,rfl|⟨rfl,rfl|⟨rfl,rfl|⟨rfl,⟨rfl,rfl⟩|⟨rfl,rfl⟩|rfl⟩⟩⟩⟩
      all_goals first
       |(have hN2:Hid (N=(l.drop (j+1)).all (nch (oth _))):=Lh (by rw[hst.out,hnc.out];rfl)
         clear hst hnc;go_wp2_with fail;go_roundg (gk - 1)
         case measure=>omega
         case rel=>exact⟨j+1,by omega,by omega,by go_num,hN2,hB2⟩)
       |(have hN2:Hid (N=false):=Lh (by rw[hst.out,hnc.out];rfl)
         clear hst hnc;go_wp2_with fail;go_ret
         exact⟨by rw[hN2.out];rfl,hB2.out⟩)
    ·obtain rfl:j=l.length:=by omega
     have u5:decide ((l.length:Int)<(l.length:Int))=false:=dF (by omega);have u6:decide (l.length<l.length)=false:=dF (by omega);have hN1:Hid (N=true):=Lh (by rw[hT.out,List.drop_eq_nil_of_le (Nat.le_refl _)];rfl);go_wp2_with fail;go_ret;exact⟨by rw[hN1.out];rfl,hBw.out⟩
theorem qkN (l:List UInt8) (hl:l.length≤1000000000) (w:World):
 Calls Tryz.prog 191 #[.string (BS l)] w fun e w'=>e= .returned (.bool (qbi l))∧Below w.heap.size w w':=by
 have hz:=qac l
 by_cases h:l.length≤1024
 ·have u1:decide ((1024:Int)<(l.length:Int))=false:=dF (by omega);have u2:decide (1024<l.length)=false:=dF (by omega);have c:=L.rcheck_any (BS l) (by rw[hz];omega) w;have hF:Hid (qbi l=((L.ck (BS l)).2==0)):=Lh (by unfold qbi BS;rw[dT h];rfl);obtain⟨r,hr⟩: ∃r,L.ck (BS l)=r:=⟨_,rfl⟩;rw[hr] at c hF;obtain⟨r1,r2⟩:=r;clear hr;go_enter Tryz.func191,Tryz.ntmps191;go_wp2_with fail;refine c.mono ?_;rintro x w1 ⟨rfl,hb⟩;replace hb:=Lh hb;clear c;go_wp2_with fail;go_ret;exact⟨by rw[hF.out];rfl,hb.out⟩
 ·have u1:decide ((1024:Int)<(l.length:Int))=true:=dT (by omega);have u2:decide (1024<l.length)=true:=dT (by omega);have hF:Hid (qbi l=false):=Lh (by unfold qbi;rw[dF h];rfl);go_enter Tryz.func191,Tryz.ntmps191;go_wp2_with fail;go_ret;exact⟨by rw[hF.out];rfl,Below.refl _ _⟩
theorem qn0 (x:Lb) (h1:x.1.length≤1000000000) (h2:x.2.length≤1000000000) (w:World):
 Calls Tryz.prog 194 #[.agg #[.string (BS x.1),.string (BS x.2)]] w fun e w'=>e= .returned (.int .i64 (qck x))∧Below w.heap.size w w':=by
 have k1:=Lh (qhS x.1 h1 false);have k2:=Lh (qkN x.2 h2);rw[show oth false=95 from rfl] at k1;have hR:Hid (qck x=if qan 95 x.1=true then (if qbi x.2=true then 0 else 41) else 40):=Lh rfl;obtain⟨a,ha⟩: ∃a,qan 95 x.1=a:=⟨_,rfl⟩;obtain⟨b,hb⟩: ∃b,qbi x.2=b:=⟨_,rfl⟩;rw[ha] at k1 hR;rw[hb] at k2 hR;obtain⟨s1,hs1⟩: ∃s,Hid (s=BS x.1):=⟨_,Lh rfl⟩;obtain⟨s2,hs2⟩: ∃s,Hid (s=BS x.2):=⟨_,Lh rfl⟩;rw[←hs1.out] at k1⊢;rw[←hs2.out] at k2⊢;have hB:=Lh ((Below.refl w.heap.size w).alloc (Nat.le_refl _) (.cells #[.string s1,.string s2] 44))
 have hc1:Hid (∀W,Below (w.alloc (.cells #[.string s1,.string s2] 44)).heap.size (w.alloc (.cells #[.string s1,.string s2] 44)) W→W.cell? ⟨w.heap.size,1,none⟩=some (.string s2)):=Lh (fun W h=>by
  rw[h.cell (p:=⟨w.heap.size,1,none⟩) (Nat.lt_of_lt_of_eq (Nat.lt_succ_self _) (by simp)),Lib.cell_of_heap (World.alloc_heap_new w _)];rfl)
 clear ha hb;go_enter Tryz.func194,Tryz.ntmps194;go_wp2_with fail;refine(k1.out _).mono ?_;rintro e w1 ⟨rfl,B1⟩;have d1:=hc1.out w1 B1;have B2:=Lh (hB.out.trans (B1.mono hB.out.size));clear B1 hc1 k1
 cases a with
 |false=>
  go_wp2_with fail;go_ret;exact⟨by rw[hR.out];rfl,B2.out⟩
 |true=>
  go_wp2_with fail;refine(k2.out _).mono ?_;rintro e w3 ⟨rfl,B3⟩;have B4:=Lh (B2.out.trans (B3.mono B2.out.size));clear B3 B2
  cases b with
  |false=>
   go_wp2_with fail;go_ret;exact⟨by rw[hR.out];rfl,B4.out⟩
  |true=>
   go_wp2_with fail;go_ret;exact⟨by rw[hR.out];rfl,B4.out⟩
theorem qmG (c:UInt8) (a b:List UInt8):ltB (c::a) (c::b)=ltB a b:=by
 rw[Bool.eq_iff_iff,qdj,qdj,List.cons_lt_cons_iff];constructor
 ·rintro(h|⟨_,h⟩)
  ·exact absurd h (by simp)
  ·exact h
 ·exact fun h=> .inr ⟨rfl,h⟩
theorem qnd (c d:UInt8) (a b:List UInt8) (h:c≠d):ltB (c::a) (d::b)=decide ((c.toNat:Int)<(d.toNat:Int)):=by
 rw[Bool.eq_iff_iff,qdj,List.cons_lt_cons_iff,decide_eq_true_eq];constructor
 ·rintro(h1|⟨h1,_⟩)
  ·have:c.toNat<d.toNat:=h1;omega
  ·exact absurd h1 h
 ·intro h1;exact .inl (show c.toNat<d.toNat by omega)
theorem qlc (a b:List UInt8) (h:a=[]∨b=[]):ltB a b=decide (a.length<b.length):=by
 rw[Bool.eq_iff_iff,qdj,decide_eq_true_eq]
 cases a with
 |nil=>
  cases b with
  |nil=>simp
  |cons d t=>simp
 |cons c s=>
  cases b with
  |nil=>simp
  |cons d t=>simp at h
theorem qm4 (a b:List UInt8) (ha:a.length≤1000000000) (hb:b.length≤1000000000) (w:World):
 Calls Tryz.prog 248 #[.string (BS a),.string (BS b)] w fun e w'=>e= .returned (.bool (ltB a b))∧ ∃m,w'=w.drewN m:=by
 have hza:=qac a;have hzb:=qac b;obtain⟨L,hL⟩: ∃L,Hid (L=ltB a b):=⟨_,Lh rfl⟩;rw[←hL.out];go_enter Tryz.func248,Tryz.ntmps248;go_wp2_with fail;go_loopg [5] (a.length+1) (fun gk s5 wx=> ∃i:Nat,i≤a.length∧i≤b.length∧a.length - i<gk∧s5= .int .i64 (i:Int)∧Hid (L=ltB (a.drop i) (b.drop i))∧Hid (∃m,wx=w.drewN m))
 case atStart=>exact⟨0,by omega,by omega,by omega,rfl,hL,Lh ⟨0,rfl⟩⟩
 case round=>
  clear hL;obtain⟨i,hia,hib,hgk,rfl,hI,hM⟩:=hrel;obtain⟨m,rfl⟩:=hM.out
  by_cases h1:i<a.length
  ·have u1:decide ((i:Int)<(a.length:Int))=true:=dT (by omega);have u1':decide (i<a.length)=true:=dT h1
   by_cases h2:i<b.length
   ·have u2:decide ((i:Int)<(b.length:Int))=true:=dT (by omega);have u2':decide (i<b.length)=true:=dT h2;obtain⟨c,hc,hB⟩:=qc0 (BS a) i (by rw[hza];exact h1);obtain⟨d,hd,hD⟩:=qc0 (BS b) i (by rw[hzb];exact h2);have hcc:Hid (a.drop i=c::a.drop (i+1)):=Lh (by rw[←hc.out,qmw];exact qfm a i h1);have hdd:Hid (b.drop i=d::b.drop (i+1)):=Lh (by rw[←hd.out,qmw];exact qfm b i h2);clear hc hd
    by_cases hcd:c=d
    ·subst hcd;have hI2:Hid (L=ltB (a.drop (i+1)) (b.drop (i+1))):=Lh (by rw[hI.out,hcc.out,hdd.out,qmG]);have n1:((c.toNat:Int) !=(c.toNat:Int))=false:=by simp
     clear hI hcc hdd;go_upto_region 4 with (fail)
     go_quiet (fail);go_wp2_with fail;go_roundg (gk - 1)
     case measure=>omega
     case rel=>exact⟨i+1,by omega,by omega,by omega,by go_num,hI2,Lh ⟨_,rfl⟩⟩
    ·have hI2:Hid (L=decide ((c.toNat:Int)<(d.toNat:Int))):=Lh (by rw[hI.out,hcc.out,hdd.out,qnd c d _ _ hcd])
     have n1:((c.toNat:Int) !=(d.toNat:Int))=true:=by
      rw[bne_iff_ne];intro e;apply hcd;apply UInt8.toNat_inj.1;omega
     clear hI hcc hdd hcd
     cases hlt:decide ((c.toNat:Int)<(d.toNat:Int))with
     |true=>
      rw[hlt] at hI2;have hlt':decide (c.toNat<d.toNat)=true:=by rw[←hlt];exact decide_eq_decide.2 (by omega)
      go_upto_region 4 with (fail)
      go_quiet (fail);go_upto_region 5 with (fail)
      go_quiet (fail);go_wp2_with fail;go_ret;exact⟨by rw[hI2.out];rfl,_,by rw[World.drewN_drewN,World.drewN_drewN]⟩
     |false=>
      rw[hlt] at hI2;have hlt':decide (c.toNat<d.toNat)=false:=by rw[←hlt];exact decide_eq_decide.2 (by omega)
      go_upto_region 4 with (fail)
      go_quiet (fail);go_upto_region 5 with (fail)
      go_quiet (fail);go_wp2_with fail;go_ret;exact⟨by rw[hI2.out];rfl,_,by rw[World.drewN_drewN,World.drewN_drewN]⟩
   ·obtain rfl:i=b.length:=by omega
    have u2:decide ((b.length:Int)<(b.length:Int))=false:=dF (by omega);have u2':decide (b.length<b.length)=false:=dF (by omega);have hF:Hid (L=false):=Lh (by rw[hI.out,qlc _ _ (.inr (List.drop_of_length_le (Nat.le_refl _))),dF (by rw[List.length_drop,List.length_drop];omega)]);have u3:decide ((a.length:Int)<(b.length:Int))=false:=dF (by omega);have u3':decide (a.length<b.length)=false:=dF (by omega);go_wp2_with fail;go_ret;exact⟨by rw[hF.out];rfl,_,rfl⟩
  ·obtain rfl:i=a.length:=by omega
   have u1:decide ((a.length:Int)<(a.length:Int))=false:=dF (by omega);have u1':decide (a.length<a.length)=false:=dF (by omega)
   have hF:Hid (L=decide (a.length<b.length)):=Lh (by
    rw[hI.out,qlc _ _ (.inl (List.drop_of_length_le (Nat.le_refl _)))]
    exact decide_eq_decide.2 (by rw[List.length_drop,List.length_drop];omega))
   by_cases h3:a.length<b.length
   ·have u3:decide ((a.length:Int)<(b.length:Int))=true:=dT (by omega);have u3':decide (a.length<b.length)=true:=dT h3;rw[u3'] at hF;go_wp2_with fail;go_ret;exact⟨by rw[hF.out];rfl,_,rfl⟩
   ·have u3:decide ((a.length:Int)<(b.length:Int))=false:=dF (by omega);have u3':decide (a.length<b.length)=false:=dF h3;rw[u3'] at hF;go_wp2_with fail;go_ret;exact⟨by rw[hF.out];rfl,_,rfl⟩
theorem qlp (n:List UInt8) (ls:List Lb) (i:Nat) (h:i<ls.length):qeM n (ls.drop i) i=if (ls.getD i lb0).1=n then (i:Int) else qeM n (ls.drop (i+1)) (i+1):=by
 rw[qfF ls i h,qeM]
theorem qqu (v:Value) (ls:List Lb) (n:List UInt8) (hl:ls.length≤1000000000) (w:World) (hr:qaM w v ls):
 Calls Tryz.prog 195 #[v,.string (BS n)] w fun e w'=>e= .returned (.int .i64 (qeM n ls 0))∧w=w':=by
 obtain⟨a,c,rfl⟩:=hr.shape;have hrh:=Lh hr;clear hr;obtain⟨G,hG⟩: ∃G,Hid (G=qeM n ls 0):=⟨_,Lh rfl⟩;rw[←hG.out];obtain⟨m,hm⟩: ∃m,m=ls.length:=⟨_,rfl⟩;have hmh:=Lh hm;rw[←hm] at hl⊢;clear hm;go_enter Tryz.func195,Tryz.ntmps195;go_wp2_with fail;go_loopg [5] (m+1) (fun gk s5 wx=> ∃i:Nat,i≤m∧m - i<gk∧s5= .int .i64 (i:Int)∧Hid (G=qeM n (ls.drop i) i)∧w=wx)
 case atStart=>exact⟨0,by omega,by omega,rfl,hG,rfl⟩
 case round=>
  clear hG;obtain⟨i,hi,hgk,rfl,hI,rfl⟩:=hrel
  by_cases hlt:i<m
  ·have u2:decide ((i:Int)<(m:Int))=true:=dT (by omega);have u3:decide (i<m)=true:=dT hlt;have hil:i<ls.length:=by rw[←hmh.out];exact hlt
   obtain⟨b,off,rfl,hbl,x1,x2⟩:=hrh.out.at' i hil;have hI2:=hI.out;rw[qlp n ls i hil] at hI2;obtain⟨x,hx⟩: ∃x,Hid (x=ls.getD i lb0):=⟨_,Lh rfl⟩;rw[←hx.out] at x1 x2 hI2;have he:((BS x.1).toList==(BS n).toList)=(x.1==n):=by rw[qab,qab]
   by_cases hxn:x.1=n
   ·rw[if_pos hxn] at hI2;have hR:=Lh hI2;have he2:((BS x.1).toList==(BS n).toList)=true:=by rw[he,hxn];exact beq_self_eq_true _
    clear he hxn hI hI2;go_wp2_with fail;go_ret;exact⟨by rw[hR.out];rfl,rfl⟩
   ·rw[if_neg hxn] at hI2;have hR:=Lh hI2;have he2:((BS x.1).toList==(BS n).toList)=false:=by rw[he,beq_eq_false_iff_ne];exact hxn
    clear he hxn hI hI2;go_wp2_with fail;go_roundg (gk - 1)
    case measure=>omega
    case rel=>exact⟨i+1,by omega,by omega,by go_num,hR,rfl⟩
  ·obtain rfl:i=m:=by omega
   have u2:decide ((i:Int)<(i:Int))=false:=dF (by omega);have hF:Hid (G= -1):=Lh (by rw[hI.out,List.drop_of_length_le (by rw[←hmh.out];exact Nat.le_refl _)];rfl);clear hI;go_wp2_with fail;go_ret;exact⟨by rw[hF.out];rfl,rfl⟩
theorem qqK (a b:List UInt8):leB a b=!(ltB b a):=by
 cases h:ltB b a with
 |true=>exact(qio a b).2 ((qdj b a).1 h)
 |false=>
  cases h2:leB a b with
  |true=>rfl
  |false=>rw[(qdj b a).2 ((qio a b).1 h2)] at h;cases h
theorem qk0 (v:Value) (ls:List Lb) (hl:ls.length≤1000000000) (hb: ∀x∈ls,x.1.length≤1000000000∧x.2.length≤1000000000) (w:World) (hr:qaM w v ls):
 Calls Tryz.prog 207 #[v] w fun e w'=>e= .returned (.tuple #[.int .i64 (qbj ls).1,.int .i64 (qbj ls).2])∧Below w.heap.size w w':=by
 obtain⟨a,c,rfl⟩:=hr.shape;have hrh:=Lh hr;have hbh:=Lh hb;clear hr hb
 by_cases h64:64<ls.length
 ·have u1:decide ((64:Int)<(ls.length:Int))=true:=dT (by omega);have hR:Hid (qbj ls=(-1,5)):=Lh (by unfold qbj;rw[if_pos h64]);go_enter Tryz.func207,Tryz.ntmps207;go_wp2_with fail;go_ret2;exact⟨by rw[hR.out];rfl,Below.refl _ _⟩
 ·have u1:decide ((64:Int)<(ls.length:Int))=false:=dF (by omega);have hR:Hid (qbj ls=chk 0 none ls):=Lh (by unfold qbj;rw[if_neg h64]);obtain⟨r1,r2,hr12⟩: ∃r1 r2,Hid (qbj ls=(r1,r2)):=⟨_,_,Lh rfl⟩;rw[hr12.out] at hR⊢;obtain⟨n,hn⟩: ∃n,n=ls.length:=⟨_,rfl⟩;have hnh:=Lh hn;rw[←hn] at u1⊢;clear hn;go_enter Tryz.func207,Tryz.ntmps207;go_wp2_with fail;go_loopg [4] (n+1) (fun gk s4 wx=> ∃i:Nat,i≤n∧n - i<gk∧s4= .int .i64 (i:Int)∧Hid ((r1,r2)=chk i (qbp ls i) (ls.drop i))∧Hid (Below w.heap.size w wx))
  case atStart=>exact⟨0,by omega,by omega,rfl,Lh (by rw[hR.out];rfl),Lh (Below.refl _ _)⟩
  case round=>
   obtain⟨i,hi,hgk,rfl,hI,B⟩:=hrel
   by_cases hlt:i<n
   ·have u2:decide ((i:Int)<(n:Int))=true:=dT (by omega);have u3:decide (i<n)=true:=dT hlt;have hil:i<ls.length:=by rw[←hnh.out];exact hlt
    obtain⟨b,off,rfl,hbl,x1,x2⟩:=(hrh.out.on B.out).at' i hil;have hI2:=hI.out;rw[qhM ls i hil] at hI2;obtain⟨x,hx⟩: ∃x,Hid (x=ls.getD i lb0):=⟨_,Lh rfl⟩;rw[←hx.out] at x1 x2 hI2;have hxb:x.1.length≤1000000000∧x.2.length≤1000000000:=hbh.out x (by rw[hx.out,List.getD_eq_getElem?_getD,List.getElem?_eq_getElem hil];exact List.getElem_mem _);have co:=Lh (fun W=>qn0 x hxb.1 hxb.2 W);go_wp2_with fail;refine(co.out _).mono ?_;rintro e w1 ⟨rfl,hb1⟩;have B1:=Lh (B.out.trans (hb1.mono B.out.size));obtain⟨b',off',hbo',_,x1',x2'⟩:=(hrh.out.on B1.out).at' i hil
    obtain⟨rfl,rfl⟩:b=b'∧off=off':=by
     simp only[Option.some.injEq,Addr.mk.injEq] at hbo';exact⟨hbo'.1,hbo'.2.1⟩
    rw[←hx.out] at x1' x2';clear hb1 co x1 x2 hbo'
    by_cases h0:qck x=0
    ·rw[if_neg (by simp[h0])] at hI2;have u4:(qck x !=0)=false:=by rw[h0];rfl
     rw[h0];have hze:(BS x.2).toList.isEmpty=x.2.isEmpty:=by rw[qab]
     have hzq:((BS x.2).toList==([]:List UInt8))=x.2.isEmpty:=by rw[qab];cases x.2<;>rfl
     cases hem:x.2.isEmpty with
     |true=>
      rw[hem] at hze hzq;have hbo:qeH (qbp ls i) x=true:=by unfold qeH;rw[hem];rfl
      rw[if_pos hbo] at hI2;have e1:r1=(i:Int):=congrArg Prod.fst hI2;have e2:r2=42:=congrArg Prod.snd hI2;subst e1 e2;clear hI hI2 hbo hem h0 u4;go_upto_region 9 with (fail)
      go_quiet (fail);go_wp2_with fail;go_ret2;exact⟨rfl,bq B1.out _⟩
     |false=>
      rw[hem] at hze hzq
      by_cases hi0:i=0
      ·have hbo:qeH (qbp ls i) x=false:=by unfold qeH qbp;rw[hem,if_pos hi0];rfl
       rw[if_neg (by rw[hbo];decide)] at hI2
       have hI3:Hid ((r1,r2)=chk (i+1) (qbp ls (i+1)) (ls.drop (i+1))):=Lh (by
        rw[hI2];unfold qbp;rw[if_neg (Nat.succ_ne_zero i),Nat.add_sub_cancel,←hx.out])
       have u7:decide ((0:Int)<(i:Int))=false:=dF (by omega);have u8:decide (0<i)=false:=dF (by omega);clear hI hI2 hbo hem h0 u4 hi0;go_upto_region 9 with (fail)
       go_quiet (fail);go_wp2_with fail;go_roundg (gk - 1)
       case measure=>omega
       case rel=>exact⟨i+1,by omega,by omega,by go_num,hI3,Lh (bq B1.out _)⟩
      ·obtain⟨j,rfl⟩: ∃j,i=j+1:=⟨i - 1,by omega⟩;obtain⟨b',off',hbo',-,y1,-⟩:=(hrh.out.on B1.out).at' j (by omega);obtain⟨p,hp⟩: ∃p,Hid (p=(ls.getD j lb0).1):=⟨_,Lh rfl⟩;rw[←hp.out] at y1
       obtain⟨rfl,rfl⟩:b=b'∧off=off':=by
        simp only[Option.some.injEq,Addr.mk.injEq] at hbo';exact⟨hbo'.1,hbo'.2.1⟩
       have hpb:p.length≤1000000000:=by rw[hp.out];exact(hbh.out (ls.getD j lb0) (by rw[List.getD_eq_getElem?_getD,List.getElem?_eq_getElem (show j<ls.length by omega)];exact List.getElem_mem _)).1
       have u7:decide ((0:Int)<((j+1:Nat):Int))=true:=dT (by omega);have u8:decide (0<j+1)=true:=dT (by omega);have e9:(((j+1:Nat):Int) - 1)=(j:Int):=by omega
       have cl:=fun W=>qm4 p x.1 hpb hxb.1 W
       have hlb:=qqK x.1 p;obtain⟨lt,hlt1⟩: ∃b,ltB p x.1=b:=⟨_,rfl⟩;rw[hlt1] at hlb;simp only[hlt1] at cl;replace cl:=Lh cl;clear hlt1
       cases lt with
       |false=>
        have hbo:qeH (qbp ls (j+1)) x=true:=by
         unfold qeH qbp;rw[hem,if_neg (Nat.succ_ne_zero j),Nat.add_sub_cancel,←hp.out];exact hlb
        rw[if_pos hbo] at hI2;have e1:r1=((j+1:Nat):Int):=congrArg Prod.fst hI2;have e2:r2=42:=congrArg Prod.snd hI2;subst e1 e2;clear hI hI2 hbo hem h0 u4 hlb hbo' hi0;go_upto_region 9 with (fail)
        go_quiet ((go_at_call 248;exact Calls.quiet_of (cl.out _)));go_wp2_with fail;go_ret2;exact⟨rfl,bq B1.out _⟩
       |true=>
        have hbo:qeH (qbp ls (j+1)) x=false:=by
         unfold qeH qbp;rw[hem,if_neg (Nat.succ_ne_zero j),Nat.add_sub_cancel,←hp.out];exact hlb
        rw[if_neg (by rw[hbo];decide)] at hI2
        have hI3:Hid ((r1,r2)=chk (j+1+1) (qbp ls (j+1+1)) (ls.drop (j+1+1))):=Lh (by
         rw[hI2];unfold qbp;rw[if_neg (Nat.succ_ne_zero (j+1)),Nat.add_sub_cancel,←hx.out])
        clear hI hI2 hbo hem h0 u4 hlb hbo' hi0;go_upto_region 9 with (fail)
        go_quiet ((go_at_call 248;exact Calls.quiet_of (cl.out _)));go_wp2_with fail;go_roundg (gk - 1)
        case measure=>omega
        case rel=>exact⟨j+1+1,by omega,by omega,by go_num,hI3,Lh (bq B1.out _)⟩
    ·rw[if_pos h0] at hI2;have e1:r1=(i:Int):=congrArg Prod.fst hI2;have e2:r2=qck x:=congrArg Prod.snd hI2;have u4:(qck x==0)=false:=beq_eq_false_iff_ne.2 h0;have u5:(qck x !=0)=true:=by rw[bne,u4];rfl
     obtain⟨ov,hov⟩: ∃ov,ov=qck x:=⟨_,rfl⟩;rw[←hov] at e2 u4 u5⊢;subst e1 e2;clear hov hI hI2 h0;go_wp2_with fail;go_ret2;exact⟨rfl,B1.out⟩
   ·obtain rfl:i=n:=by omega
    have hF:Hid ((r1,r2)=(-1,0)):=Lh (by rw[hI.out,List.drop_of_length_le (by rw[←hnh.out];exact Nat.le_refl _)];rfl);have u2:decide ((i:Int)<(i:Int))=false:=dF (by omega);have e1:=congrArg Prod.fst hF.out;have e2:=congrArg Prod.snd hF.out;simp only at e1 e2;subst e1 e2;clear hI;go_wp2_with fail;go_ret2;exact⟨rfl,B.out⟩
theorem qi7 (v:Value) (ls:List Lb) (hl:ls.length≤1000000000) (hb: ∀x∈ls,x.1.length≤1000000000∧x.2.length≤1000000000) (w:World) (hr:qaM w v ls):
 Calls Tryz.prog 149 #[v] w fun e w'=>e= .returned (.bool (qaX ls))∧Below w.heap.size w w':=by
 have c:=qk0 v ls hl hb w hr;obtain⟨a,cp,rfl⟩:=hr.shape;obtain⟨r1,r2,h12⟩:=qeV ls;have hF:Hid (qaX ls=(r2==0)):=Lh (by unfold qaX;rw[h12]);rw[h12] at c;clear h12 hr hb;go_enter Tryz.func149,Tryz.ntmps149;go_wp2_with fail;refine c.mono ?_;rintro e w1 ⟨rfl,hB⟩;go_wp2_with fail;go_ret;exact⟨by rw[hF.out];rfl,hB⟩
theorem qh8 (n:List UInt8): ∀(ls:List Lb) (i:Nat),(qeM n ls i= -1∧qa0 ls n=[])∨ ∃j:Nat,j<ls.length∧qeM n ls i=((i+j:Nat):Int)∧qa0 ls n=(ls.getD j lb0).2
 | [],i=> .inl ⟨rfl,rfl⟩
 |x::t,i=>by
  rw[qeM]
  by_cases h:x.1=n
  ·right;refine⟨0,by simp,by rw[if_pos h];rfl,?_⟩;unfold qa0;rw[List.find?_cons,show(x.1==n)=true by rw[h];exact beq_self_eq_true _];rfl
  ·rw[if_neg h]
   have hg:qa0 (x::t) n=qa0 t n:=by
    unfold qa0;rw[List.find?_cons,show(x.1==n)=false from beq_eq_false_iff_ne.2 h]
   rcases qh8 n t (i+1)with ⟨h1,h2⟩|⟨j,h1,h2,h3⟩
   ·exact .inl ⟨h1,by rw[hg,h2]⟩
   ·exact .inr ⟨j+1,by simp;omega,by rw[h2];congr 1;omega,by rw[hg,h3];rfl⟩
theorem qkx (v:Value) (ls:List Lb) (n:List UInt8) (hl:ls.length≤1000000000) (w:World) (hr:qaM w v ls):
 Calls Tryz.prog 145 #[v,.string (BS n)] w fun e w'=>e= .returned (.string (BS (qa0 ls n)))∧w=w':=by
 have cf:=Lh (qqu v ls n hl w hr);obtain⟨a,c,rfl⟩:=hr.shape;rcases qh8 n ls 0 with ⟨h1,h2⟩|⟨j,h1,h2,h3⟩
 ·rw[h2];rw[h1] at cf;clear hr h1 h2;go_enter Tryz.func145,Tryz.ntmps145;go_wp2_with fail;refine cf.out.mono ?_;rintro e w1 ⟨rfl,rfl⟩;go_wp2_with fail;go_ret;exact⟨rfl,rfl⟩
 ·rw[h3];rw[h2,Nat.zero_add] at cf;obtain⟨b,off,rfl,hbl,x1,x2⟩:=hr.at' j h1;obtain⟨x,hx⟩: ∃x,x=ls.getD j lb0:=⟨_,rfl⟩;rw[←hx] at x1 x2⊢;obtain⟨m,hm⟩: ∃m,m=ls.length:=⟨_,rfl⟩;rw[←hm] at cf h1 hl⊢;have u1:decide ((0:Int)≤(j:Int))=true:=dT (by omega);have u2:decide ((j:Int)≥0)=true:=dT (by omega);clear hr h2 h3 hx hm;go_enter Tryz.func145,Tryz.ntmps145;go_wp2_with fail;refine cf.out.mono ?_;rintro e w1 ⟨rfl,rfl⟩;go_wp2_with fail;go_ret;exact⟨rfl,rfl⟩
theorem qfd (v:Value) (s:Smp) (hs:SBd s) (w:World) (hv:SIn w v s):Calls Tryz.prog 86 #[v] w fun e w'=>e= .returned (.bool (qaV s))∧Below w.heap.size w w':=by
 obtain⟨lv,rfl,hr⟩:=hv;have hF:Hid (qaV s=(qaX s.ls&&(qan 58 (qa0 s.ls qaj)&&((!(Go.Proofs.YtdeimnnpcfncpaaGreatDoor.kindN s.bits==4)||(s.bits==9221120237041090561))&&(s.st||(s.t==0)))))):=Lh rfl;have hgl:=qiM s.ls qaj hs.b;obtain⟨h1,h2,h3⟩:=hs;obtain⟨ls,bits,st,t⟩:=s;simp only at hr hF hgl h1 h2 h3⊢;have NB:SB w.heap.size lv (bits:Int) st t (w.alloc (.cells #[lv,.int .u64 (bits:Int),.bool st,.int .i64 t] 34)):=World.alloc_heap_new w _;have Ba:Below w.heap.size w (w.alloc (.cells #[lv,.int .u64 (bits:Int),.bool st,.int .i64 t] 34)):=(Below.refl _ _).alloc (Nat.le_refl _) _;have LR:=Lh (hr.on Ba);have c1:=Lh (qi7 lv ls (by omega) h2 _ LR.out);have k0:=NB.c0;have k1:=NB.c1;have k2:=NB.c2;have k3:=NB.c3;replace NB:=Lh NB;replace Ba:=Lh Ba;have e0:Hid ((qaV ⟨ls,bits,st,t⟩)=qaV ⟨ls,bits,st,t⟩):=Lh rfl
 cases hr1:qaX ls with
 |false=>
  rw[hr1] at c1 hF;have hF2:Hid (qaV ⟨ls,bits,st,t⟩=false):=Lh (by rw[hF.out];rfl);clear hF hr hr1;go_enter Tryz.func86,Tryz.ntmps86;go_wp2_with fail;refine c1.out.mono ?_;rintro e w1 ⟨rfl,B1⟩;have B1h:=Lh (Ba.out.trans (B1.mono Ba.out.size));clear B1 c1;go_wp2_with fail;go_ret;exact⟨by rw[hF2.out];rfl,B1h.out⟩
 |true=>
  rw[hr1] at c1 hF;have cg:=Lh (fun W (hL:qaM W lv ls)=>qkx lv ls qaj (by omega) W hL);have cm:=fun W=>qhS (qa0 ls qaj) (by omega) true W
  simp only[show oth true=58 from rfl] at cm;obtain⟨gn,hgn⟩: ∃gn,qa0 ls qaj=gn:=⟨_,rfl⟩;rw[hgn] at cg cm hF;have ck:=Lh (fun W=>qda bits h3 W);clear hr hr1 hgn
  cases hm:qan 58 gn with
  |false=>
   rw[hm] at cm hF;have hF2:Hid (qaV ⟨ls,bits,st,t⟩=false):=Lh (by rw[hF.out];rfl);replace cm:=Lh cm;clear hF hm;go_enter Tryz.func86,Tryz.ntmps86;go_wp2_with fail;refine c1.out.mono ?_;rintro e w1 ⟨rfl,B1⟩;have N1:=NB.out.on B1;have k0:=N1.c0;have k1:=N1.c1;have L1:=Lh (LR.out.on B1);have B1h:=Lh (Ba.out.trans (B1.mono Ba.out.size));replace N1:=Lh N1;clear B1 c1;go_wp2_with fail;refine(cg.out _ L1.out).mono ?_;rintro e w2 ⟨rfl,rfl⟩;go_wp2_with fail;refine(cm.out _).mono ?_;rintro e w3 ⟨rfl,B2⟩;have B2h:=Lh (B1h.out.trans (B2.mono B1h.out.size));clear B2;go_wp2_with fail;go_ret;exact⟨by rw[hF2.out];rfl,B2h.out⟩
  |true=>
   rw[hm] at cm hF;replace cm:=Lh cm;clear hm;obtain⟨kb,hkb⟩: ∃kb,Go.Proofs.YtdeimnnpcfncpaaGreatDoor.kindN bits=kb:=⟨_,rfl⟩;have ck':Hid (∀W:World,Calls Tryz.prog 150 #[.int .u64 (bits:Int)] W fun e w'=>e= .returned (.int .u8 ((kb:Nat):Int))∧W=w'):=Lh (fun W=>by rw[←hkb];exact ck.out W);rw[hkb] at hF;clear ck hkb
   have u1:(((kb:Nat):Int)==4)=(kb==4):=by
    rw[Bool.eq_iff_iff,beq_iff_eq,beq_iff_eq];omega
   have u1':(((kb:Nat):Int) !=4)=!(kb==4):=by
    rw[bne,u1]
   have u2:(((bits:Nat):Int)==9221120237041090561)=(bits==9221120237041090561):=by
    rw[Bool.eq_iff_iff,beq_iff_eq,beq_iff_eq];omega
   obtain⟨q1,hq1⟩: ∃q1,(kb==4)=q1:=⟨_,rfl⟩;obtain⟨q2,hq2⟩: ∃q2,(bits==9221120237041090561)=q2:=⟨_,rfl⟩;obtain⟨q3,hq3⟩: ∃q3,(t==0)=q3:=⟨_,rfl⟩;rw[hq1] at u1 u1' hF;rw[hq2] at u2 hF;rw[hq3] at hF;clear hq1 hq2;cases q1<;>cases q2<;>cases st<;>cases q3
   all_goals
    have hF2:=Lh hF.out;clear hF;go_enter Tryz.func86,Tryz.ntmps86;go_wp2_with fail;refine c1.out.mono ?_;rintro e w1 ⟨rfl,B1⟩;have N1:=NB.out.on B1;have k0:=N1.c0;have k1:=N1.c1;have L1:=Lh (LR.out.on B1);have B1h:=Lh (Ba.out.trans (B1.mono Ba.out.size));replace N1:=Lh N1;clear B1 c1;go_wp2_with fail;refine(cg.out _ L1.out).mono ?_;rintro e w2 ⟨rfl,rfl⟩;go_wp2_with fail;refine(cm.out _).mono ?_;rintro e w3 ⟨rfl,B2⟩;have N2:=N1.out.on B2;have k0:=N2.c0;have k1:=N2.c1;have k2:=N2.c2;have k3:=N2.c3;have B2h:=Lh (B1h.out.trans (B2.mono B1h.out.size));clear B2 N2;go_wp2_with fail;refine(ck'.out _).mono ?_;rintro e w3 ⟨rfl,rfl⟩;go_wp2_with fail;go_ret;exact⟨by rw[hF2.out];rfl,B2h.out⟩
end Go.Proofs.YtdeimnnpcfncpaaGreatDoor.X
