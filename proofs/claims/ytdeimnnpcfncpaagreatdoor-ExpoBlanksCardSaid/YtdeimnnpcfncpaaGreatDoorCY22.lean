/- Parts of the proof: HS. -/
import Derived.Test.YtdeimnnpcfncpaaGreatDoorCY21
set_option linter.unusedVariables false
set_option linter.unusedSimpArgs false
set_option maxRecDepth 100000
set_option maxHeartbeats 64000000
namespace Go.Proofs.YtdeimnnpcfncpaaGreatDoor
open Go Go.RowKit
def mvF (l:List UInt8):Nat:=l.foldl (fun v c=>if c=46 then v else v*10+(c.toNat - 48)) 0
def mv (s:ByteArray) (a i:Nat):Nat:=mvF ((s.data.toList.take i).drop a)
theorem qle (s:ByteArray) (a i:Nat) (ha:a≤i) (hi:i<s.size):mv s a (i+1)=if bt s i=46 then mv s a i else mv s a i*10+((bt s i).toNat - 48):=by
 have hl:i<s.data.toList.length:=by simpa using hi
 unfold mv;rw[List.take_add_one,List.drop_append_of_le_length (by rw[List.length_take];omega),List.getElem?_eq_getElem hl];show mvF (_++[s.data.toList[i]])=_;unfold mvF;rw[List.foldl_append];unfold bt;rw[List.getD_eq_getElem?_getD,List.getElem?_eq_getElem hl];rfl
theorem qr1 (s:ByteArray) (a:Nat):mv s a a=0:=by
 unfold mv;rw[List.drop_of_length_le (by rw[List.length_take];omega)];rfl
structure qb6 (w:World) (D:Nat) (nd:Nat) (dp:Int) (ng:Bool) (v:Nat):Prop where
 ex: ∃g:Nat→Nat,qaK w D g nd dp ng false∧qdm g nd∧(nd=0∨48<g 0)∧num g nd=v
theorem qb6.nd {w:World} {D nd v:Nat} {dp:Int} {ng:Bool} (h:qb6 w D nd dp ng v):w.cell? ⟨D,800,none⟩=some (.int .i64 nd):=by obtain⟨g,h,_⟩:=h.ex;exact h.nd
theorem qb6.dp {w:World} {D nd v:Nat} {dp:Int} {ng:Bool} (h:qb6 w D nd dp ng v):w.cell? ⟨D,801,none⟩=some (.int .i64 dp):=by obtain⟨g,h,_⟩:=h.ex;exact h.dp
theorem qb6.fz {w:World} {D nd v:Nat} {dp:Int} {ng:Bool} (h:qb6 w D nd dp ng v) (i:Nat):w.frozen? ⟨D,i,none⟩=false:=by obtain⟨g,h,_⟩:=h.ex;exact h.fz i
theorem qb6.cell {w:World} {D nd v:Nat} {dp:Int} {ng:Bool} (h:qb6 w D nd dp ng v) (i:Nat) (hi:i<800): ∃x:Nat,w.cell? ⟨D,i,none⟩=some (.int .u8 (x:Int)):=by obtain⟨g,h,_⟩:=h.ex;exact⟨_,h.cell i hi⟩
theorem qb6.setP {w:World} {D nd v:Nat} {dp:Int} {ng:Bool} (h:qb6 w D nd dp ng v) (x:Int):qb6 (w.setCell ⟨D,801,none⟩ (.int .i64 x)) D nd x ng v:=by obtain⟨g,h,h1⟩:=h.ex;exact⟨g,h.setP x,h1⟩
theorem qb6.digit {w:World} {D nd v x:Nat} {dp:Int} {ng:Bool} (h:qb6 w D nd dp ng v) (hn:nd<800) (hx:48≤x∧x≤57) (h0:nd=0→48<x):
 qb6 ((w.setCell ⟨D,nd,none⟩ (.int .u8 (x:Int))).setCell ⟨D,800,none⟩ (.int .i64 ((nd:Int)+1))) D (nd+1) dp ng (v*10+(x - 48)):=by
 obtain⟨g,h,h1,h2,h3⟩:=h.ex;refine⟨upd g nd x,(h.setD nd x hn).setN _,?_,.inr ?_,?_⟩
 ·intro i hi
  by_cases e:i=nd
  ·rw[e,qeA];exact hx
  ·rw[upd_ne _ _ e];exact h1 i (by omega)
 ·by_cases e:nd=0
  ·rw[e,qeA];exact h0 e
  ·rw[upd_ne _ _ (fun q=>e q.symm)];exact h2.resolve_left e
 ·show 10*num (upd g nd x) nd+(upd g nd x nd - 48)=_;rw[qeA,qbh nd (h:=g) (fun i hi=>upd_ne _ _ (by omega)),h3,Nat.mul_comm]
theorem qb6.oth {w w':World} {D nd v:Nat} {dp:Int} {ng:Bool} (h:qb6 w D nd dp ng v) (e:w'.heap=w.heap):qb6 w' D nd dp ng v:=by obtain⟨g,h,h1⟩:=h.ex;exact⟨g,h.oth (by rw[e]),h1⟩
theorem qb6.zero {w:World} {D v:Nat} {dp:Int} {ng:Bool} (h:qb6 w D 0 dp ng v):v=0:=by
 obtain⟨g,h,h1,h2,h3⟩:=h.ex;exact h3.symm
theorem qiP {s:ByteArray} {e:Nat} {E:Int} (T:Tail s e E):(e=s.size∧E=0)∨ ∃(b:Nat) (ne:Bool),(bt s e=101∨bt s e=69)∧((b=0∧ne=false∧bt s (e+1)≠43∧bt s (e+1)≠45)∨(b=1∧((ne=false∧bt s (e+1)=43)∨(ne=true∧bt s (e+1)=45))))∧e+1+b<s.size∧s.size≤e+1+b+5∧(∀i,e+1+b≤i→i<s.size→isD (bt s i)=true)∧(if ne=true then -(est s (e+1+b) s.size:Int) else (est s (e+1+b) s.size:Int))=E:=by
 cases T with
 |none h=>exact .inl ⟨h,rfl⟩
 |exp b ne hc hb hq h5 hd=>exact .inr ⟨b,ne,hc,hb,hq,h5,hd,rfl⟩
theorem qmw (B D:Nat) (s:ByteArray) (a e:Nat) (ng:Bool) (E:Int) (H:qh6 s a e) (S:Sgn s a ng) (T:Tail s e E) (hs:s.size≤799) (g0:Nat→Nat) (n0 t0:Bool) (w:World) (h:qaK w D g0 0 0 n0 t0) (hB:B≤D):
 Calls Tryz.prog 280 #[.pointer (some ⟨D,0,none⟩),.string s] w fun x w'=>x= .returned (.bool true)∧qb6 w' D (mat s a e).nd ((if (mat s a e).dot then (mat s a e).dp else ((mat s a e).nd:Int))+E) ng (mv s a e)∧Below B w w':=by
 have hlt:=H.lt;have hle:=H.le;have h0:0<s.size:=by omega
 have ha:a≤1:=by rcases S with h|h<;>omega
 obtain⟨M,hM⟩: ∃M,Hid (mat s a e=M):=⟨_,Lh rfl⟩;rw[hM.out];obtain⟨Q,hQ⟩: ∃Q:Int,Hid (Q=if M.dot then M.dp else (M.nd:Int)):=⟨_,Lh rfl⟩;rw[←hQ.out];have hSh:=Lh S;have hTh:=Lh T;have hHh:=Lh H;have c1:=h.ng;have c2:=h.tr;have f1:=h.fz 802;have f2:=h.fz 803;have hst0:=Lh h;have t0':decide ((s.size:Int)≤0)=false:=dF (by omega);have t1':decide (s.size≤0)=false:=dF (by omega);have tE: ¬s=ByteArray.empty:=fun e=>by rw[e] at h0;exact absurd h0 (by decide)
 clear h S T H;go_enter Tryz.func280,Tryz.ntmps280;go_upto_block 0 with (fail)
 go_cut [5] (fun s5 wx=>s5= .int .i64 (a:Int)∧Hid (qb6 wx D 0 0 ng 0∧Below B w wx))
 case first=>as_aux_lemma=>
  obtain⟨c,hc,hB1⟩:=qdd s 0 h0;have hf0:=Lh (show qb6 ((w.setCell ⟨D,802,none⟩ (.bool false)).setCell ⟨D,803,none⟩ (.bool false)) D 0 0 false 0∧Below B w ((w.setCell ⟨D,802,none⟩ (.bool false)).setCell ⟨D,803,none⟩ (.bool false))from⟨⟨g0,(hst0.out.setG false).setT false,fun i hi=>absurd hi (by omega),.inl rfl,rfl⟩,((Below.refl B w).setCell (p:=⟨D,802,none⟩) hB _).setCell (p:=⟨D,803,none⟩) hB _⟩);have hf1:=Lh (show qb6 (((w.setCell ⟨D,802,none⟩ (.bool false)).setCell ⟨D,803,none⟩ (.bool false)).setCell ⟨D,802,none⟩ (.bool true)) D 0 0 true 0∧Below B w (((w.setCell ⟨D,802,none⟩ (.bool false)).setCell ⟨D,803,none⟩ (.bool false)).setCell ⟨D,802,none⟩ (.bool true))from⟨⟨g0,((hst0.out.setG false).setT false).setG true,fun i hi=>absurd hi (by omega),.inl rfl,rfl⟩,(((Below.refl B w).setCell (p:=⟨D,802,none⟩) hB _).setCell (p:=⟨D,803,none⟩) hB _).setCell (p:=⟨D,802,none⟩) hB _⟩);have c3:((w.setCell ⟨D,802,none⟩ (.bool false)).setCell ⟨D,803,none⟩ (.bool false)).cell? ⟨D,802,none⟩=some (.bool false):=((hst0.out.setG false).setT false).ng;have f3:((w.setCell ⟨D,802,none⟩ (.bool false)).setCell ⟨D,803,none⟩ (.bool false)).frozen? ⟨D,802,none⟩=false:=((hst0.out.setG false).setT false).fz 802;rcases hSh.out with ⟨rfl,rfl,g1,g2⟩|⟨rfl,⟨rfl,g⟩|⟨rfl,g⟩⟩
  ·rw[hc.out] at g1 g2;have s1:=qbS c 43 43 rfl g1;have s2:=qbS c 45 45 rfl g2;clear hSh hHh hTh hM hc g1 g2 hf1;go_wp2_with fail;go_meet;exact⟨rfl,hf0⟩
  ·obtain rfl:c=43:=hc.out.symm.trans g;rw[show(((43:UInt8).toNat:Int))=43 from rfl] at hB1;clear hSh hHh hTh hM hc g hf1;go_wp2_with fail;go_meet;exact⟨rfl,hf0⟩
  ·obtain rfl:c=45:=hc.out.symm.trans g;rw[show(((45:UInt8).toNat:Int))=45 from rfl] at hB1;clear hSh hHh hTh hM hc g hf0;go_wp2_with fail;go_meet;exact⟨rfl,hf1⟩
 case rest=>as_aux_lemma=>
  clear c1 c2 f1 f2 hst0 hSh;obtain⟨rfl,hst⟩:=hcut;go_upto_block 1 with (fail)
  go_cut [5,6,7] (fun s5 s6 s7 wx=>s5= .int .i64 (e:Int)∧s6= .bool M.dot∧s7= .bool true∧Hid (qb6 wx D M.nd M.dp ng (mv s a e)∧Below B w wx))
  case first=>as_aux_lemma=>
   go_wp2_with fail;go_loopg [5,6,7] (e+1) (fun gk s5 s6 s7 wx=> ∃(i:Nat) (m:MS),e - i<gk∧a≤i∧i≤e∧Hid (mat s a i=m)∧s5= .int .i64 (i:Int)∧s6= .bool m.dot∧s7= .bool m.seen∧Hid (qb6 wx D m.nd m.dp ng (mv s a i)∧Below B w wx))
   case atStart=>exact⟨a,ms0,by omega,Nat.le_refl _,by omega,Lh (qhX s a),rfl,rfl,rfl,Lh (by rw[qr1];exact hst.out)⟩
   case round=>as_aux_lemma=>
    clear hst;obtain⟨i,m,hgk,hai,hie,hm,rfl,rfl,rfl,hst⟩:=hrel;have hnd:=(qje hHh.out (i - a) (by omega)).1;rw[show a+(i - a)=i by omega,hm.out] at hnd;obtain⟨b1,b2,b3,b4,b5⟩:=qbR hHh.out i hai hie;rw[hm.out] at b1 b2 b3 b4 b5;clear b2 b3
    by_cases hlt2:i<e
    ·have u1:decide ((i:Int)<(s.size:Int))=true:=dT (by omega);have u1':decide (i<s.size)=true:=dT (by omega);have his:i<s.size:=by omega
     obtain⟨c,hc,hBb⟩:=qdd s i his;have hmst:=qdB s a i hai his;rw[hm.out,hc.out] at hmst;have hvst:=qle s a i hai his;rw[hc.out] at hvst;have hch:=hHh.out.ch i hai hlt2;rw[hm.out,hc.out] at hch;obtain⟨dot,seen,nd,mant,dp,tr⟩:=m;dsimp only at*;obtain⟨V,hV⟩: ∃V,V=mv s a i:=⟨_,rfl⟩;rw[←hV] at hst hvst;clear hV;have hcn:=hst.out.1.nd;have hcp:=hst.out.1.dp;have fn:=hst.out.1.fz 800;have fp:=hst.out.1.fz 801;have hn8:nd<800:=by omega
     by_cases g:c=46
     ·subst g;obtain rfl:dot=false:=by rcases hch with h|h;exact absurd h (by decide);exact h.2
      rw[qfR] at hmst;rw[if_pos rfl] at hvst;have hnext:=Lh (show qb6 (wr.setCell ⟨D,801,none⟩ (.int .i64 (nd:Int))) D nd (nd:Int) ng (mv s a (i+1))∧Below B w (wr.setCell ⟨D,801,none⟩ (.int .i64 (nd:Int)))from⟨by rw[hvst];exact hst.out.1.setP _,hst.out.2.setCell hB _⟩);replace hmst:=Lh hmst;rw[show(((46:UInt8).toNat:Int))=46 from rfl] at hBb;clear hch hc hm hHh hTh hM hvst hst;go_wp2_with fail;go_roundg (gk - 1)
      case measure=>omega
      case rel=>exact⟨i+1,_,by omega,by omega,by omega,hmst,by go_num,rfl,rfl,hnext⟩
     ·have hd:=(qaB c).1 (by rcases hch with h|h;exact h;exact absurd h.1 g);rw[if_neg g] at hvst;have v1:=qbS c 46 46 rfl g;have v2:=qbS c 95 95 rfl (fun e=>by subst e;exact absurd hd (by decide));have v3:decide ((48:Int)≤(c.toNat:Int))=true:=dT (by omega);have v4:decide ((c.toNat:Int)≤57)=true:=dT (by omega);have v3':decide (48≤c.toNat)=true:=dT (by omega);have v4':decide (c.toNat≤57)=true:=dT (by omega);have d1:(48:Int)≤c.toNat:=by omega
      have d2:(c.toNat:Int)≤57:=by omega
      by_cases h0:nd=0∧c=48
      ·obtain⟨h0,rfl⟩:=h0;subst h0;rw[qcP _ _ _ _ _ _ rfl] at hmst;have hv0:V=0:=hst.out.1.zero;subst hv0;rw[show(0*10+((48:UInt8).toNat - 48):Nat)=0 from rfl] at hvst;have hnext:=Lh (show qb6 (wr.setCell ⟨D,801,none⟩ (.int .i64 (dp - 1))) D 0 (dp - 1) ng (mv s a (i+1))∧Below B w (wr.setCell ⟨D,801,none⟩ (.int .i64 (dp - 1)))from⟨by rw[hvst];exact hst.out.1.setP _,hst.out.2.setCell hB _⟩);replace hmst:=Lh hmst;rw[show(((48:UInt8).toNat:Int))=48 from rfl] at hBb;clear hch hc hm hHh hTh hM hvst hst g hd v1 v2 v3 v4 v3' v4' d1 d2;go_wp2_with fail;go_roundg (gk - 1)
       case measure=>omega
       case rel=>exact⟨i+1,_,by omega,by omega,by omega,hmst,by go_num,rfl,rfl,hnext⟩
      ·have u8:decide ((nd:Int)<800)=true:=dT (by omega);have u8':decide (nd<800)=true:=dT hn8;obtain⟨m',hm'⟩: ∃m':MS,m'=mat s a (i+1):=⟨_,rfl⟩
       have hm1:m'.dot=dot∧m'.seen=true∧m'.nd=nd+1∧m'.dp=dp:=by
        rw[hm',hmst]
        by_cases h19:nd<19
        ·rw[qd2 _ _ _ _ _ _ _ g (fun x=>h0 ⟨x.2,x.1⟩) h19];exact⟨rfl,rfl,rfl,rfl⟩
        ·rw[qc7 _ _ _ _ _ _ _ g (by omega)];exact⟨rfl,rfl,rfl,rfl⟩
       obtain⟨md,ms,mn,mp⟩:=hm1;obtain⟨x,hx⟩: ∃x,x=c.toNat:=⟨_,rfl⟩
       have hx0:nd=0→48<x:=fun h=>by
        have h48:c≠48:=fun q=>h0 ⟨h,q⟩
        have:c.toNat≠48:=fun q=>h48 (UInt8.toNat_inj.1 q)
        omega
       rw[←hx] at hvst hBb v1 v2 v3 v4 v3' v4' d1 d2 hd;have hdig:=hst.out.1.digit hn8 hd hx0;rw[←hvst] at hdig;obtain⟨y,hcell⟩:=hst.out.1.cell nd hn8;have fnd:=hst.out.1.fz nd
       have hn1: ∀W,W.heap=((wr.setCell ⟨D,nd,none⟩ (.int .u8 (x:Int))).setCell ⟨D,800,none⟩ (.int .i64 ((nd:Int)+1))).heap→qb6 W D m'.nd m'.dp ng (mv s a (i+1)):=fun W hW=>by
        rw[mn,mp];exact hdig.oth hW
       have hbl:=Lh hst.out.2;replace hn1:=Lh hn1;replace hm':=Lh hm';rw[←md];have g48:(nd=0∧x=48)∨ ¬(nd=0∧x=48):=Classical.em _
       by_cases h48:x=48
       ·have v6:((nd:Int)==0)=false:=by rw[beq_eq_false_iff_ne];intro q;have:=hx0 (by omega);omega
        subst h48;rw[show(((48:Nat)):Int)=48 from rfl] at hBb;clear hch hc hm hHh hTh hM hvst hst g h0 hx hx0 hd v1 v2 v3 v4 v3' v4' d1 d2 hdig hmst md mn mp g48;go_upto_region 25 with (fail)
        go_region
        all_goals go_wp2_with fail
        all_goals go_roundg (gk - 1)
        case measure=>omega
        case rel=>exact⟨i+1,m',by omega,by omega,by omega,Lh hm'.out.symm,by go_num,rfl,by rw[ms],Lh ⟨hn1.out _ rfl,Below.drew (Below.setCell (p:=⟨D,800,none⟩) (Below.setCell (p:=⟨D,nd,none⟩) hbl.out hB _) hB _)⟩⟩
       ·have v5:((x:Int)==48)=false:=by rw[beq_eq_false_iff_ne];omega
        clear hch hc hm hHh hTh hM hvst hst g h0 hx hx0 hd h48 hdig hmst md mn mp g48;go_upto_region 25 with (fail)
        go_region
        all_goals go_wp2_with fail
        all_goals go_roundg (gk - 1)
        case measure=>omega
        case rel=>exact⟨i+1,m',by omega,by omega,by omega,Lh hm'.out.symm,by go_num,rfl,by rw[ms],Lh ⟨hn1.out _ rfl,Below.drew (Below.setCell (p:=⟨D,800,none⟩) (Below.setCell (p:=⟨D,nd,none⟩) hbl.out hB _) hB _)⟩⟩
    ·obtain rfl:i=e:=by omega
     obtain rfl:m=M:=hm.out.symm.trans hM.out;have hseen:m.seen=true:=by rw[←hM.out];exact hHh.out.seen
     rw[hseen]
     by_cases he:i=s.size
     ·have u1:decide ((i:Int)<(s.size:Int))=false:=dF (by omega);have u1':decide (i<s.size)=false:=dF (by omega);clear hm hHh hTh hM hseen he;go_wp2_with fail;go_meet;exact⟨rfl,rfl,rfl,hst⟩
     ·have u1:decide ((i:Int)<(s.size:Int))=true:=dT (by omega);have u1':decide (i<s.size)=true:=dT (by omega);have his:i<s.size:=by omega
      obtain⟨c,hc,hBb⟩:=qdd s i his
      have hcc:(c.toNat:Int)=101∨(c.toNat:Int)=69:=by
       cases hTh.out with
       |none h=>exact absurd h he
       |exp b ne h=>rw[hc.out] at h;rcases h with rfl|rfl;exact .inl rfl;exact .inr rfl
      clear hm hHh hTh hM hseen he hc;rcases hcc with h|h
      ·rw[h] at hBb;clear h;go_wp2_with fail;go_meet;exact⟨rfl,rfl,rfl,hst⟩
      ·rw[h] at hBb;clear h;go_wp2_with fail;go_meet;exact⟨rfl,rfl,rfl,hst⟩
  case rest=>as_aux_lemma=>
   clear hst;obtain⟨rfl,rfl,rfl,hst⟩:=hcut;obtain⟨b1,_,_,b4,b5⟩:=qbR hHh.out e (by omega) (Nat.le_refl _);rw[hM.out] at b1 b4 b5;clear hM;obtain⟨dot,seen,nd,mant,dp,tr⟩:=M;dsimp only at*;have d1: -2000≤Q∧Q≤2000:=by rw[hQ.out];cases dot<;>simp<;>omega
   obtain⟨d1,d2⟩:=d1;go_upto_if 120 with (fail)
   go_cut [5] (fun s5 wx=>s5= .int .i64 (e:Int)∧Hid (qb6 wx D nd Q ng (mv s a e)∧Below B w wx))
   case first=>as_aux_lemma=>
    have hcn:=hst.out.1.nd;have hcp:=hst.out.1.dp;have fp:=hst.out.1.fz 801;cases dot
    ·obtain rfl:=hQ.out;clear hTh hQ hHh;have hfin:=Lh (show qb6 (wc.setCell ⟨D,801,none⟩ (.int .i64 (nd:Int))) D nd (nd:Int) ng (mv s a e)∧Below B w (wc.setCell ⟨D,801,none⟩ (.int .i64 (nd:Int)))from⟨hst.out.1.setP _,hst.out.2.setCell hB _⟩);go_wp2_with fail;go_meet;exact⟨rfl,hfin⟩
    ·obtain rfl:=hQ.out;clear hTh hQ hHh;go_wp2_with fail;go_meet;exact⟨rfl,hst⟩
   case rest=>as_aux_lemma=>
    clear hst;obtain⟨rfl,hst⟩:=hcut;have hcn:=hst.out.1.nd;have hcp:=hst.out.1.dp;have fp:=hst.out.1.fz 801;clear hHh hQ;have e1: -100000≤E∧E≤100000:=qkK s e E hTh.out;obtain⟨e1,e2⟩:=e1;have hT':=qiP hTh.out;clear hTh;rcases hT' with ⟨he,hE0⟩|⟨b,ne,hc,hb,hq,h5,hd,hE2⟩
    ·have u1:decide ((e:Int)<(s.size:Int))=false:=dF (by omega);have u1':decide (e<s.size)=false:=dF (by omega);have u2:((e:Int)==(s.size:Int))=true:=by rw[beq_iff_eq];omega
     have hE0h:=Lh hE0;clear he hE0;go_wp2_with fail;go_ret;exact⟨rfl,by rw[hE0h.out,Int.add_zero];exact hst.out.1,hst.out.2⟩
    ·obtain⟨q,hqq⟩: ∃q,Hid (e+1+b=q):=⟨_,Lh rfl⟩;rw[hqq.out] at hq h5 hd hE2;replace hE2:=Lh hE2;have q0:e+1≤q:=by rw[←hqq.out];omega
     obtain⟨sg,hsg⟩: ∃sg:Int,Hid ((ne=false∧sg=1)∨(ne=true∧sg= -1)):=by cases ne;exact⟨1,Lh (.inl ⟨rfl,rfl⟩)⟩;exact⟨-1,Lh (.inr ⟨rfl,rfl⟩)⟩
     replace hd:=Lh hd;have he1:e+1<s.size:=by omega
     have he:e<s.size:=by omega
     have u1:decide ((e:Int)<(s.size:Int))=true:=dT (by omega);have u1':decide (e<s.size)=true:=dT he;have u2:decide ((s.size:Int)≤(e:Int)+1)=false:=dF (by omega);replace h5:=Lh h5;obtain⟨c,hc',hBb⟩:=qdd s e he
     have hcc:(c.toNat:Int)=101∨(c.toNat:Int)=69:=by
      rw[hc'.out] at hc;rcases hc with rfl|rfl;exact .inl rfl;exact .inr rfl
     have hlo:=Lh (fun W=>qlc (c.toNat:Int) hcc W);clear hc hc' hcc;go_upto_block 4 with (refine(hlo.out _).mono ?_;rintro x w1 ⟨rfl,rfl⟩)
     go_cut [5,8] (fun s5 s8 wx=>s5= .int .i64 (q:Int)∧s8= .int .i64 sg∧Hid (qb6 wx D nd Q ng (mv s a e)∧Below B w wx))
     case first=>as_aux_lemma=>
      clear hlo hBb u1 u1' hcn hcp fp;obtain⟨c,hc,hBb⟩:=qdd s (e+1) he1;rcases hb with ⟨rfl,rfl,g1,g2⟩|⟨rfl,⟨rfl,g⟩|⟨rfl,g⟩⟩
      ·rw[hc.out] at g1 g2;obtain rfl:sg=1:=by rcases hsg.out with h|h;exact h.2;exact absurd h.1 (by decide)
       have s1:=qbS c 43 43 rfl g1;have s2:=qbS c 45 45 rfl g2;have hq':=hqq.out;clear hqq hsg hd hc g1 g2 hE2 h5;subst hq';go_wp2_with fail;go_meet;exact⟨by go_num,rfl,hst⟩
      ·obtain rfl:c=43:=hc.out.symm.trans g;obtain rfl:sg=1:=by rcases hsg.out with h|h;exact h.2;exact absurd h.1 (by decide)
       rw[show(((43:UInt8).toNat:Int))=43 from rfl] at hBb;have hq':=hqq.out;clear hqq hsg hd hc g hE2 h5;subst hq';go_wp2_with fail;go_meet;exact⟨by go_num,rfl,hst⟩
      ·obtain rfl:c=45:=hc.out.symm.trans g;obtain rfl:sg= -1:=by rcases hsg.out with h|h;exact absurd h.1 (by decide);exact h.2
       rw[show(((45:UInt8).toNat:Int))=45 from rfl] at hBb;have hq':=hqq.out;clear hqq hsg hd hc g hE2 h5;subst hq';go_wp2_with fail;go_meet;exact⟨by go_num,rfl,hst⟩
     case rest=>as_aux_lemma=>
      clear hst hcn hcp fp hlo hBb u2;obtain⟨rfl,rfl,hst⟩:=hcut;clear hb u1 u1';obtain⟨c,hc,hBb⟩:=qdd s q hq;have hcd:=(qaB _).1 (hd.out q (Nat.le_refl _) hq);rw[hc.out] at hcd;have v1:decide ((s.size:Int)≤(q:Int))=false:=dF (by omega);have v1':decide (s.size≤q)=false:=dF (by omega);have v2:decide ((c.toNat:Int)<48)=false:=dF (by omega);have v2':decide (c.toNat<48)=false:=dF (by omega);have v3:decide ((57:Int)<(c.toNat:Int))=false:=dF (by omega);have v3':decide (57<c.toNat)=false:=dF (by omega);clear hc hcd;go_wp2_with fail;go_loopg [5,9] (s.size+1) (fun gk s5 s9 wx=> ∃k:Nat,s.size - k<gk∧q≤k∧k≤s.size∧s5= .int .i64 (k:Int)∧s9= .int .i64 (est s q k:Int)∧Hid (qb6 wx D nd Q ng (mv s a e)∧Below B w wx))
      case atStart=>exact⟨q,by omega,Nat.le_refl _,by omega,rfl,by rw[qjb];rfl,hst⟩
      case round=>as_aux_lemma=>
       clear hBb v1 v1' v2 v2' v3 v3' hst;obtain⟨k,hgk,hqk,hks,rfl,rfl,hst⟩:=hrel
       by_cases hlt3:k<s.size
       ·have u1:decide ((k:Int)<(s.size:Int))=true:=dT (by omega);have u1':decide (k<s.size)=true:=dT (by omega);obtain⟨d,hdd,hBb⟩:=qdd s k hlt3;have hcd:=(qaB _).1 (hd.out k hqk hlt3);rw[hdd.out] at hcd;have hse:=qeR s q k hqk hlt3;rw[hdd.out] at hse;have hbd:=qkQ s q hd.out (k - q) (by omega);rw[show q+(k - q)=k by omega] at hbd;have h55:=h5.out;have hbd2:est s q k<10^4:=Nat.lt_of_lt_of_le hbd (Nat.pow_le_pow_right (by decide) (by omega));obtain⟨E1,hE1⟩: ∃E1,E1=est s q k:=⟨_,rfl⟩;rw[←hE1] at hse hbd2⊢;replace hse:=Lh hse;have hbd3:(E1:Int)<10000:=by omega
        have w1:decide ((E1:Int)<10000)=true:=dT (by omega);have w1':decide (E1<10000)=true:=dT (by omega);obtain⟨x,hx⟩: ∃x,x=d.toNat:=⟨_,rfl⟩;rw[←hx] at hcd hBb hse;have v3:decide ((48:Int)≤(x:Int))=true:=dT (by omega);have v4:decide ((x:Int)≤57)=true:=dT (by omega);have v3':decide (48≤x)=true:=dT (by omega);have v4':decide (x≤57)=true:=dT (by omega);have v5:((x:Int)==95)=false:=by simp;omega
        have d1:(48:Int)≤x:=by omega
        have d2:(x:Int)≤57:=by omega
        clear hx hdd hbd hE1 hbd2 hcd hE2 e1 e2 hqq hsg;go_wp2_with fail;go_roundg (gk - 1)
        case measure=>omega
        case rel=>exact⟨k+1,by omega,by omega,by omega,by go_num,by rw[hse.out];go_num,hst⟩
       ·obtain rfl:k=s.size:=by omega
        have u1:decide ((s.size:Int)<(s.size:Int))=false:=dF (by omega);have u2:((s.size:Int)==(s.size:Int))=true:=by rw[beq_iff_eq]
        obtain⟨E1,hE1⟩: ∃E1,E1=est s q s.size:=⟨_,rfl⟩;have f:=hE2.out;rw[←hE1] at f⊢;replace hE1:=Lh hE1;have hcp:=hst.out.1.dp;have fp:=hst.out.1.fz 801
        have hEE:(E1:Int)*sg=E:=by
         rcases hsg.out with ⟨rfl,rfl⟩|⟨rfl,rfl⟩
         ·rw[Int.mul_one];exact f
         ·rw[Int.mul_neg,Int.mul_one];exact f
        have hfin:=Lh (show qb6 (wr.setCell ⟨D,801,none⟩ (.int .i64 (Q+E))) D nd (Q+E) ng (mv s a e)∧Below B w (wr.setCell ⟨D,801,none⟩ (.int .i64 (Q+E)))from⟨hst.out.1.setP _,hst.out.2.setCell hB _⟩);clear hsg hd hE2 h5 f hst hqq hqk;go_wp2_with fail;go_ret;exact⟨rfl,hfin.out⟩
end Go.Proofs.YtdeimnnpcfncpaaGreatDoor
