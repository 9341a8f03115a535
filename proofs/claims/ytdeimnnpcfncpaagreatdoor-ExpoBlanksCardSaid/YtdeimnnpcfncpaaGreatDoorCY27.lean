/- Parts of the proof: HK. -/
import Derived.Test.YtdeimnnpcfncpaaGreatDoorCY21
set_option linter.unusedVariables false
set_option linter.unusedSimpArgs false
set_option maxRecDepth 100000
set_option maxHeartbeats 64000000
namespace Go.Proofs.YtdeimnnpcfncpaaGreatDoor
open Go Go.RowKit
theorem qr3 (D X0 E0:Nat) (ng:Bool) (w0 w:World) (h:qbC w D X0 E0 ng false) (hE0:1670≤E0) (hE1:E0≤2310) (hG:qeO w0) (hb0:Below w0.heap.size w0 w) (hD:w0.heap.size≤D):
 Calls Tryz.prog 281 #[.pointer (some ⟨D,0,none⟩),.pointer (some ⟨11,0,none⟩)] w fun e w'=>(∃(r:Nat) (b:Bool),e= .returned (.tuple #[.int .u64 ((sgw ng+r:Nat):Int),.bool b])∧qbm (X0*U2 1075) (U10 2000) r)∧Below w0.heap.size w0 w':=by
 obtain⟨B,hB⟩: ∃B,B=w0.heap.size:=⟨_,rfl⟩;have hGx:=Lh (fun (wx:World) (hb:Below B w0 wx)=>hG.on (hB▸hb));rw[←hB] at hb0 hD⊢;have hXb:=h.Ebd;have hX0:X0<U10 2310:=Nat.lt_of_lt_of_le hXb.2 (qa4 hE1);have hX1:U10 1669≤X0:=Nat.le_trans (qa4 (by omega)) hXb.1;have hp0:Ph1 X0 0 X0 E0 false:=⟨qk9 X0,by decide,⟨hE0,hE1⟩,.inl ⟨rfl,hX1⟩⟩;obtain⟨nd,c1,n1,n2⟩:=h.head;have c3:=h.dp;obtain⟨e0,he0⟩: ∃e0:Int,e0=(E0:Int) - 2000:=⟨_,rfl⟩;rw[←he0] at c3;have u1:((nd:Int)==0)=false:=by rw[beq_eq_false_iff_ne];omega
 have u2:decide ((310:Int)<e0)=false:=dF (by omega);have u3:decide (e0< -330)=false:=dF (by omega);have hst:=Lh (show qbC w D X0 E0 ng false∧Ph1 X0 0 X0 E0 false∧Below B w0 w from⟨h,hp0,hb0⟩);have hX0':=Lh hX0;clear h hG hb0 hXb hX0 hX1 hp0 he0 hB;go_enter Tryz.func281,Tryz.ntmps281;go_wp2_with fail;refine qbB rfl rfl ?_;intro Z h0' h1';have z0:=Lh h0';have z1:=Lh h1';clear h0' h1';go_upto_block 0 with (fail)
 clear c1 c3 u1 u2 u3;go_cut [6] (fun s6 wx=> ∃X E q:Nat,∃tr:Bool,s6= .int .i64 (q:Int)∧q≤1034∧E≤2000∧Hid (qbC wx D X E ng tr∧Ph1 X0 q X E tr∧Below B w0 wx))
 case first=>
  go_wp2_with fail;go_loopg [6] (X0+1) (fun gk s6 wx=> ∃X E q:Nat,∃tr:Bool,X<gk∧s6= .int .i64 (q:Int)∧q≤1034∧1670≤E∧E≤2310∧Hid (qbC wx D X E ng tr∧Ph1 X0 q X E tr∧Below B w0 wx))
  case atStart=>exact⟨X0,E0,0,false,by omega,rfl,by omega,hE0,hE1,hst⟩
  case round=>
   clear hst;obtain⟨X,E,q,tr,hgk,rfl,hq,hEl,hEh,hst⟩:=hrel;have c3:=hst.out.1.dp
   by_cases hE:E≤2000
   ·obtain⟨e,he⟩: ∃e:Int,e=(E:Int) - 2000:=⟨_,rfl⟩;rw[←he] at c3;have u1:decide ((0:Int)<e)=false:=dF (by omega);clear he;go_wp2_with fail;go_meet
    case rel=>exact⟨X,E,q,tr,rfl,hq,hE,hst⟩
   ·obtain⟨d,rfl⟩: ∃d,E=2000+d:=⟨E - 2000,by omega⟩;rw[show((2000+d:Nat):Int) - 2000=(d:Int) by omega] at c3;have hd1:1≤d:=by omega
    have hG:=hGx.out wr hst.out.2.2;obtain⟨b,off,cap,t1,t2,t3⟩:=hG.pt;obtain⟨n1',n2',_⟩:=qie d;obtain⟨n,hn⟩: ∃n,n=nsh d:=⟨_,rfl⟩;rw[←hn] at n1' n2';have u1:decide ((0:Int)<(d:Int))=true:=dT (by omega);have u1':decide (0<d)=true:=dT (by omega);have hc:=fun k=>(qeg B D X (2000+d) n ng tr (wr.drewN k) (hst.out.1.oth rfl) (by omega) (by omega) n1' (by omega) hD)
    have hnext: ∀(w':World),(∃X' E' tr',qbC w' D X' E' ng tr'∧ShR X n tr X' tr')→ ∀k,Below B (wr.drewN k) w'→ ∃X' E':Nat,∃tr':Bool,X'<X∧q+n≤1034∧1670≤E'∧E'≤2310∧Hid (qbC w' D X' E' ng tr'∧Ph1 X0 (q+n) X' E' tr'∧Below B w0 w'):=by
     rintro w' ⟨X',E',tr',h1,h2⟩ k h3;rw[hn] at h2⊢;obtain⟨a1,a2⟩:=qmg hst.out.2.1 hX0'.out rfl hd1 hst.out.1.Ebd h1.Ebd h2;exact⟨X',E',tr',a2,a1.qb,a1.eb.1,a1.eb.2,Lh ⟨h1,a1,(qaf hst.out.2.2 k).trans h3⟩⟩
    replace hnext:=Lh hnext
    by_cases h9:9≤d
    ·have hn27:n=27:=by rw[hn];exact if_pos h9
     have v1:decide ((9:Int)≤(d:Int))=true:=dT (by omega);have v1':decide (9≤d)=true:=dT h9;clear hn t3;subst hn27;have hc2: ∀k,Calls Tryz.prog 300 #[.pointer (some ⟨D,0,none⟩),.int .i64 (-27)] (wr.drewN k) fun e w'=>e= .returned (.tuple #[])∧(∃X' E' tr',qbC w' D X' E' ng tr'∧ShR X 27 tr X' tr')∧Below B (wr.drewN k) w':=hc
     replace hc2:=Lh hc2;clear hc hG;go_upto_region 13 with (fail)
     go_quiet (fail);go_wp2_with fail;refine(hc2.out _).mono ?_;rintro e w' ⟨rfl,h1,h2⟩;obtain⟨X',E',tr',a1,a2,a3,a4,a5⟩:=hnext.out w' h1 _ h2;clear h1 h2 hc2 hnext hst;go_wp2_with fail;go_roundg X
     case measure=>omega
     case rel=>exact⟨X',E',q+27,tr',by omega,by go_num,by omega,a3,a4,a5⟩
    ·have hnp:n=ptb d:=by rw[hn];exact if_neg h9
     have v1:decide ((9:Int)≤(d:Int))=false:=dF (by omega);have v1':decide (9≤d)=false:=dF h9;have v2:decide ((d:Int)<9)=true:=dT (by omega);have v2':decide (d<9)=true:=dT (by omega);have t4:=t3 d (by omega);rw[←hnp] at t4;have hc2:=Lh hc;clear hn hnp t3 hc hG;go_upto_region 13 with (fail)
     go_quiet (fail);go_upto_region 15 with (fail)
     go_quiet (fail);go_wp2_with fail;refine(hc2.out _).mono ?_;rintro e w' ⟨rfl,h1,h2⟩;obtain⟨X',E',tr',a1,a2,a3,a4,a5⟩:=hnext.out w' h1 _ h2;clear h1 h2 hc2 hnext hst;go_wp2_with fail;go_roundg X
     case measure=>omega
     case rel=>exact⟨X',E',q+n,tr',by omega,by go_num,by omega,a3,a4,a5⟩
 case rest=>
  clear hst;obtain⟨X,E,q,tr,rfl,hq,hE,hst⟩:=hcut;go_upto_block 2 with (fail)
  go_cut [6] (fun s6 wx=> ∃X p:Nat,∃x:Int,∃tr:Bool,s6= .int .i64 x∧Hid (x=(q:Int) - p)∧ -1200≤x∧x≤1200∧Hid (qbC wx D X 2000 ng tr∧Ph2 X0 p q X 2000 tr∧5*U10 1999≤X∧Below B w0 wx))
  case first=>
   go_wp2_with fail;go_loopg [6] (U10 2000+1) (fun gk s6 wx=> ∃X E p:Nat,∃x:Int,∃tr:Bool,U10 2000 - X<gk∧s6= .int .i64 x∧Hid (x=(q:Int) - p)∧ -1200≤x∧x≤1200∧1670≤E∧E≤2000∧Hid (qbC wx D X E ng tr∧Ph2 X0 p q X E tr∧Below B w0 wx))
   case atStart=>exact⟨X,E,0,q,tr,by omega,rfl,Lh (by omega),by omega,by omega,hst.out.2.1.eb.1,hE,Lh ⟨hst.out.1,qkx hst.out.2.1 hE,hst.out.2.2⟩⟩
   case round=>
    clear hst hE;obtain⟨X,E,p,x,tr,hgk,rfl,hx,hx1,hx2,hEl,hEh,hst⟩:=hrel;have c3:=hst.out.1.dp;have hXl:X<U10 2000:=Nat.lt_of_lt_of_le hst.out.1.Ebd.2 (qa4 hEh);obtain⟨d,hd⟩: ∃d,d=2000 - E:=⟨_,rfl⟩;have hEd:E+d=2000:=by omega
    rw[show((E:Nat):Int) - 2000= -(d:Int) by omega] at c3;clear hd;have hG:=hGx.out wr hst.out.2.2;obtain⟨b,off,cap,t1,t2,t3⟩:=hG.pt;have hL:=hG.lc;obtain⟨n1',n2',_⟩:=qie d;obtain⟨n,hn⟩: ∃n,n=nsh d:=⟨_,rfl⟩;rw[←hn] at n1' n2';have hc:=fun k=>(qca B D X E n ng tr (wr.drewN k) (hst.out.1.oth rfl) (by omega) n1' (by omega) (hL.on (Nat.le_refl _) (qaf (Below.refl _ _) k)) hD)
    have hnext:(1≤d∨X<5*U10 1999)→ ∀(w':World),(∃X' E' tr',qqE w' D X' E' ng tr'∧Cut (X*2^n) X' tr tr')→ ∀k,Below B (wr.drewN k) w'→ ∃X' E':Nat,∃tr':Bool,X<X'∧X'<U10 2000∧ -1200≤x - n∧1670≤E'∧E'≤2000∧Hid (qbC w' D X' E' ng tr'∧Ph2 X0 (p+n) q X' E' tr'∧Below B w0 w'):=by
     rintro hor w' ⟨X',E',tr',h1',h2⟩ k h3;have h1:=h1'.toN;have hs:=qrt hEd hst.out.1.Ebd.2 hor;rw[←hn] at hs;obtain⟨a1,a2,a3⟩:=qm4 hst.out.2.1 hst.out.1.Ebd h1.Ebd n1' hs h2;have:=a1.pb;have:=hx.out;exact⟨X',E',tr',a2,a3,by omega,a1.eb.1,a1.eb.2,Lh ⟨h1,a1,(qaf hst.out.2.2 k).trans h3⟩⟩
    have hcond:(1≤d)∨(d=0∧ ∃y:Nat,wr.cell? ⟨D,0,none⟩=some (.int .u8 (y:Int))∧((y<53∧X<5*U10 1999)∨(53≤y∧5*U10 1999≤X))):=by
     by_cases h:1≤d
     ·exact .inl h
     ·refine .inr ⟨by omega,?_⟩;have hd2:=hst.out.1;rw[show E=2000 by omega] at hd2;obtain⟨y,y1,y2,y3⟩:=hd2.first;refine⟨y,y1,?_⟩
      by_cases h5:y<53
      ·exact .inl ⟨h5,y2 h5⟩
      ·exact .inr ⟨by omega,y3 (by omega)⟩
    replace hc:=Lh hc;replace hnext:=Lh hnext;have hEdh:=Lh hEd;have hdb:d≤330:=by omega
    clear hEd;rcases hcond with hd1|⟨hd0,y,cy,⟨hy,hyX⟩|⟨hy,hyX⟩⟩
    ·obtain⟨e,he⟩: ∃e:Int,e= -(d:Int):=⟨_,rfl⟩;rw[←he] at c3;have u1:decide (e<0)=true:=dT (by omega);have u2: -e=(d:Int):=by omega
     have u5: -400≤e:=by omega
     have u6:e≤ -1:=by omega
     by_cases h9:9≤d
     ·have hn27:n=27:=by rw[hn];exact if_pos h9
      have v1:decide ((9:Int)≤(d:Int))=true:=dT (by omega);have v1':decide (9≤d)=true:=dT h9;clear hn t3 he;subst hn27;go_upto_region 20 with (fail)
      go_quiet (fail);go_wp2_with fail;refine(hc.out _).mono ?_;rintro e' w' ⟨rfl,h1,h2⟩;obtain⟨X',E',tr',a1,a2,a3,a4,a5,a6⟩:=hnext.out (.inl hd1) w' h1 _ h2;clear h1 h2 hc hnext hst;go_wp2_with fail;go_roundg (U10 2000 - X)
      case measure=>omega
      case rel=>exact⟨X',E',p+27,x - 27,tr',by omega,by go_num,Lh (by have:=hx.out;omega),by omega,by omega,a4,a5,a6⟩
     ·have hnp:n=ptb d:=by rw[hn];exact if_neg h9
      have v1:decide ((9:Int)≤(d:Int))=false:=dF (by omega);have v1':decide (9≤d)=false:=dF h9;have v2:decide ((d:Int)<9)=true:=dT (by omega);have v2':decide (d<9)=true:=dT (by omega);have t4:=t3 d (by omega);rw[←hnp] at t4;clear hn hnp t3 he;go_upto_region 20 with (fail)
      go_quiet (fail);go_upto_region 22 with (fail)
      go_quiet (fail);go_wp2_with fail;refine(hc.out _).mono ?_;rintro e' w' ⟨rfl,h1,h2⟩;obtain⟨X',E',tr',a1,a2,a3,a4,a5,a6⟩:=hnext.out (.inl hd1) w' h1 _ h2;clear h1 h2 hc hnext hst;go_wp2_with fail;go_roundg (U10 2000 - X)
      case measure=>omega
      case rel=>exact⟨X',E',p+n,x - n,tr',by omega,by go_num,Lh (by have:=hx.out;omega),by omega,by omega,a4,a5,a6⟩
    ·subst hd0;have hnp:n=1:=by rw[hn];rfl
     have c4:wr.cell? ⟨D,801,none⟩=some (.int .i64 0):=c3;have u3:decide ((y:Int)<53)=true:=dT (by omega);have u3':decide (y<53)=true:=dT hy;have t4:wr.cell? ⟨b,off,none⟩=some (.int .i64 1):=t3 0 (by decide);clear hn t3 c3;subst hnp;go_upto_region 20 with (fail)
     go_quiet (fail);go_upto_region 22 with (fail)
     go_quiet (fail);go_wp2_with fail;refine(hc.out _).mono ?_;rintro e' w' ⟨rfl,h1,h2⟩;obtain⟨X',E',tr',a1,a2,a3,a4,a5,a6⟩:=hnext.out (.inr hyX) w' h1 _ h2;clear h1 h2 hc hnext hst;go_wp2_with fail;go_roundg (U10 2000 - X)
     case measure=>omega
     case rel=>exact⟨X',E',p+1,x - 1,tr',by omega,by go_num,Lh (by have:=hx.out;omega),by omega,by omega,a4,a5,a6⟩
    ·subst hd0;have c4:wr.cell? ⟨D,801,none⟩=some (.int .i64 0):=c3;have u3:decide ((y:Int)<53)=false:=dF (by omega);have u3':decide (y<53)=false:=dF (by omega);have hE2:E=2000:=by have:=hEdh.out;omega
     subst hE2;clear hn t3 c3 hc hnext;go_wp2_with fail;go_meet
     case rel=>exact⟨X,p,x,tr,rfl,hx,hx1,hx2,Lh ⟨hst.out.1,hst.out.2.1,hyX,hst.out.2.2⟩⟩
  case rest=>
   clear hst hE;obtain⟨X,p,x,tr,rfl,hx,hx1,hx2,hst⟩:=hcut;obtain⟨hd0,hp2,hh,hb2⟩:=hst.out;have hXl:=hd0.Ebd.2;have hG:=hGx.out wc hb2;have i0:=hG.i0;have i1:=hG.i1;have i2:=hG.i2;obtain⟨v,hv⟩: ∃v:Int,v=x - 1:=⟨_,rfl⟩;have hv1:x - 1=v:=hv.symm;have hpb:=hp2.pb;have hxo:=hx.out
   by_cases hden:q+1022≤p
   ·have hq0:=qsQ hp2 hXl hden;subst hq0;obtain⟨n,hn⟩: ∃n:Nat,p=n+1021:=⟨p - 1021,by omega⟩;have u1:decide (v< -1022)=true:=dT (by omega);have u2: -1022 - v=(n:Int):=by omega
    obtain⟨y,hy⟩: ∃y:Int,y= -1022:=⟨_,rfl⟩;have u3:v+(n:Int)=y:=by omega
    have y1: -1100≤y:=by omega
    have y2:y≤1100:=by omega
    have n1':1≤n:=by omega
    have hn78:n≤78:=by omega
    by_cases hn6:n≤60
    ·have hc:=qeg B D X 2000 n ng tr wc hd0 (by omega) (by omega) n1' hn6 hD
     have hnext: ∀(w':World),(∃X' E' tr',qbC w' D X' E' ng tr'∧ShR X n tr X' tr')∧Below B wc w'→ ∃(X' E' p' q' e1:Nat) (tr':Bool),Hid (y=(e1:Int) - 1023∧qbC w' D X' E' ng tr'∧Ph3 X0 p' q' X' tr' e1∧Below B w0 w'):=by
      rintro w' ⟨⟨X',E',tr',h1,h2⟩,h3⟩;exact⟨X',E',p,n,1,tr',Lh ⟨by omega,h1,qpK hp2 hXl hn h2,hb2.trans h3⟩⟩
     replace hc:=Lh hc;replace hnext:=Lh hnext;clear hp2 hd0 hst hxo hv hn hx hXl hb2 hh hy;go_wp2_with fail;refine hc.out.mono ?_;rintro e' wz ⟨rfl,h12⟩;obtain⟨X',E',p',q',e1,tr',hst2⟩:=hnext.out wz h12;clear h12 hc hnext;go_upto_region 30 with (fail)
     clear u1 u2 u3;have hG2:=hGx.out wz hst2.out.2.2.2;have k0:=hG2.i0;have k1:=hG2.i1;have k2:=hG2.i2;have hL2:=hG2.lc;have hyo:=hst2.out.1;have hye:y+1023=(e1:Int):=by omega
     clear hyo;have he0:=hst2.out.2.2.1.e0
     by_cases he:2047≤e1
     ·have r1:decide ((2047:Int)≤(e1:Int))=true:=dT (by omega);have r1':decide (2047≤e1)=true:=dT he;have hfin:=Lh (qg8 hst2.out.2.2.1 he);have hbw:=Lh hst2.out.2.2.2;have cn:=hst2.out.2.1.ng;clear hst2 hG2 hL2;go_upto_region 30 with (fail)
      go_quiet (fail);go_wp2_with fail;go_step3;refine z1.out _ _ ?_;clear z0 z1;go_upto_region 40 with (fail)
      go_quiet (fail);go_wp2_with fail;go_step3;go_upto_region 43 with (fail)
      go_quiet (fail);cases ng
      ·go_wp2_with fail;simp only[Exit.far];go_ret2;exact⟨⟨INF,_,rfl,hfin.out⟩,by repeat (first|exact hbw.out|refine qaf ?_ _)⟩
      ·go_upto_region 45 with (fail)
       go_quiet (fail);go_wp2_with fail;simp only[Exit.far];go_ret2;exact⟨⟨INF,_,rfl,hfin.out⟩,by repeat (first|exact hbw.out|refine qaf ?_ _)⟩
     ·have r1:decide ((2047:Int)≤(e1:Int))=false:=dF (by omega);have r1':decide (2047≤e1)=false:=dF he
      have hE2:E'≤2000:=by
       have h1:=qcr (Nat.lt_of_le_of_lt hst2.out.2.1.Ebd.1 hst2.out.2.2.1.xb);omega
      have hc3:=Lh (fun k=>qca B D X' E' 53 ng tr' (wz.drewN k) (hst2.out.2.1.oth rfl) (by omega) (by decide) (by decide) (hL2.on (Nat.le_refl _) (qaf (Below.refl _ _) k)) hD);clear hG2 hL2 hE2;go_upto_region 30 with (fail)
      go_quiet (fail);go_wp2_with fail;refine(hc3.out _).mono ?_;rintro e' w2 ⟨rfl,⟨X2,E2,tr2,d2',cut2⟩,hb3⟩;have d2:=d2'.toN;obtain⟨f1,f2',f3,f4⟩:=qgQ hst2.out.2.2.1 (by omega) cut2
      have hE3:E2≤2020:=by
       have h1:U10 (E2 - 1)<U10 2016:=by
        refine Nat.lt_of_le_of_lt d2.Ebd.1 (Nat.lt_of_lt_of_le f1 ?_);rw[qcO 2000 16,Nat.mul_comm (U10 2000)];exact Nat.mul_le_mul_right _ (by decide)
       have:=qcr h1;omega
      have hr:=qk0 D X2 E2 ng tr2 w2 d2' hE3 f1;have cn:=d2.ng;have hbw:=Lh ((qaf hst2.out.2.2.2 _).trans hb3);have hG3:=hGx.out w2 hbw.out;have l0:=hG3.i0;have l1:=hG3.i1;have l2:=hG3.i2;obtain⟨m,hm⟩: ∃m,m=qfC X2 tr2:=⟨_,rfl⟩;rw[←hm] at hr f2' f3 f4;have f2:=Lh f2';replace hr:=Lh hr;have he6:e1≤2046:=by omega
      clear hst2 hb3 hG3 d2 d2' cut2 f1 f2' hE3 hm hc3 k0 k1 k2 r1 r1' he;go_wp2_with fail;refine hr.out.mono ?_;rintro e' w3 ⟨rfl,hw3⟩;subst hw3;clear hr
      by_cases m53:m=9007199254740992
      ·subst m53;have hyf:y+1+1023=(e1:Int)+1:=by omega
       by_cases e46:e1=2046
       ·subst e46;have hfin:=Lh (show qbm (X0*U2 1075) (U10 2000) INF from f2.out);have hy3:y=1023:=by omega
        clear hyf hye f2;subst hy3;go_upto_region 36 with (fail)
        go_quiet (fail);go_wp2_with fail;go_step3;refine z1.out _ _ ?_;clear z0 z1;go_upto_region 40 with (fail)
        go_quiet (fail);go_wp2_with fail;go_step3;go_upto_region 43 with (fail)
        go_quiet (fail);cases ng
        ·go_wp2_with fail;simp only[Exit.far];go_ret2;exact⟨⟨INF,_,rfl,hfin.out⟩,by repeat (first|exact hbw.out|refine qaf ?_ _)⟩
        ·go_upto_region 45 with (fail)
         go_quiet (fail);go_wp2_with fail;simp only[Exit.far];go_ret2;exact⟨⟨INF,_,rfl,hfin.out⟩,by repeat (first|exact hbw.out|refine qaf ?_ _)⟩
       ·have r2:decide ((2047:Int)≤(e1:Int)+1)=false:=dF (by omega);have b1:bits .and .u64 4503599627370496 4503599627370496=4503599627370496:=by decide
        have b2:bits .and .u64 4503599627370496 4503599627370495=0:=by decide
        obtain⟨S,hS⟩: ∃S:Nat,S=(e1+1)*4503599627370496:=⟨_,rfl⟩;obtain⟨Rn,hRn⟩: ∃Rn:Nat,Rn=0+S:=⟨_,rfl⟩;have hS2:S≤9218868437227405312:=by omega
        have a2:bits .and .i64 ((e1:Int)+1) 2047=(e1:Int)+1:=by rw[qaH];omega
        have a3:IntKind.u64.wrap ((e1:Int)+1)=(e1:Int)+1:=qbA _ (by omega) (by omega);have a4:IntKind.u64.wrap (((e1:Int)+1)*4503599627370496)=(S:Int):=by rw[qbA _ (by omega) (by omega)];omega
        have a5:bits .or .u64 (0) (S:Int)=(Rn:Int):=by
         have:=u64_or_nat (0) S (by omega) (by omega);have h2:=qcq 0 (0) ((e1+1)) (.inl rfl) (by omega) (by omega);rw[Nat.zero_add,←hS] at h2;rw[h2,←hRn] at this;exact this
        have a6:bits .or .u64 (Rn:Int) 9223372036854775808=((9223372036854775808+Rn:Nat):Int):=by
         have:=u64_or_nat Rn 9223372036854775808 (by omega) (by decide);rw[Nat.or_comm,qa1 9223372036854775808 Rn (.inr rfl) (by omega)] at this;exact this
        have hfin:=Lh (show qbm (X0*U2 1075) (U10 2000) Rn by
         rw[show Rn=(e1 - 1)*4503599627370496+9007199254740992 by omega];exact f2.out)
        have he5:e1≤2045:=by omega
        clear f2 f3 f4 hye e46 he0 hRn hS;go_upto_region 36 with (fail)
        go_quiet (fail);go_wp2_with fail;go_step3;refine z0.out _ _ ?_;clear z0 z1;go_upto_region 43 with (fail)
        go_quiet (fail);cases ng
        ·go_wp2_with fail;simp only[Exit.far];go_ret2;exact⟨⟨Rn,_,by rw[show sgw false+Rn=Rn from Nat.zero_add _];rfl,hfin.out⟩,by repeat (first|exact hbw.out|refine qaf ?_ _)⟩
        ·go_upto_region 45 with (fail)
         go_quiet (fail);go_wp2_with fail;simp only[Exit.far];go_ret2;exact⟨⟨Rn,_,by rw[show sgw true+Rn=9223372036854775808+Rn from rfl];rfl,hfin.out⟩,by repeat (first|exact hbw.out|refine qaf ?_ _)⟩
      ·have m1:((m:Int)==9007199254740992)=false:=by rw[beq_eq_false_iff_ne];omega
       have hm9:m<9007199254740992:=by omega
       have hb1:bits .and .u64 (m:Int) 4503599627370496=(((if 4503599627370496≤m then 4503599627370496 else 0:Nat)):Int):=by
        have:=u64_and_nat m 4503599627370496 (by omega) (by decide);have h2:=qfX 0 m (.inl rfl) hm9;rw[Nat.zero_add] at h2;rw[h2] at this;exact this
       have hb2:bits .and .u64 (m:Int) 4503599627370495=((m%4503599627370496:Nat):Int):=by
        have:=u64_and_nat m 4503599627370495 (by omega) (by decide);refine Eq.trans this ?_;rw[show(4503599627370495:Nat)=2^52 - 1 from rfl,Nat.and_two_pow_sub_one_eq_mod]
       by_cases mlow:m<4503599627370496
       ·have he1:e1=1:=by
         apply Nat.le_antisymm _ he0;apply Nat.le_of_not_lt;intro hlt;have:=f4 hlt;omega
        subst he1;rw[if_neg (by omega)] at hb1;rw[Nat.mod_eq_of_lt mlow] at hb2;obtain⟨S,hS⟩: ∃S:Nat,S=0*4503599627370496:=⟨_,rfl⟩;obtain⟨Rn,hRn⟩: ∃Rn:Nat,Rn=m+S:=⟨_,rfl⟩;have hS2:S≤9218868437227405312:=by omega
        have a2:bits .and .i64 (0) 2047=0:=by rw[qaH];omega
        have a3:IntKind.u64.wrap (0)=0:=qbA _ (by omega) (by omega);have a4:IntKind.u64.wrap ((0)*4503599627370496)=(S:Int):=by rw[qbA _ (by omega) (by omega)];omega
        have a5:bits .or .u64 ((m:Int)) (S:Int)=(Rn:Int):=by
         have:=u64_or_nat (m) S (by omega) (by omega);have h2:=qcq 0 (m) (0) (.inl rfl) (by omega) (by omega);rw[Nat.zero_add,←hS] at h2;rw[h2,←hRn] at this;exact this
        have a6:bits .or .u64 (Rn:Int) 9223372036854775808=((9223372036854775808+Rn:Nat):Int):=by
         have:=u64_or_nat Rn 9223372036854775808 (by omega) (by decide);rw[Nat.or_comm,qa1 9223372036854775808 Rn (.inr rfl) (by omega)] at this;exact this
        have hfin:=Lh (show qbm (X0*U2 1075) (U10 2000) Rn by
         rw[show Rn=(1 - 1)*4503599627370496+m by rw[hRn,hS,Nat.sub_self,Nat.zero_mul,Nat.zero_add,Nat.add_zero]];exact f2.out)
        have hS0:S=0:=by rw[hS]
        have a7:bits .or .u64 (m:Int) 0=(Rn:Int):=by rw[hS0] at a5;exact a5
        clear hS0;clear f2 f3 f4 he0 hRn hS;go_wp2_with fail;go_step3;refine z0.out _ _ ?_;clear z0 z1;go_upto_region 43 with (fail)
        go_quiet (fail);cases ng
        ·go_wp2_with fail;simp only[Exit.far];go_ret2;exact⟨⟨Rn,_,by rw[show sgw false+Rn=Rn from Nat.zero_add _];rfl,hfin.out⟩,by repeat (first|exact hbw.out|refine qaf ?_ _)⟩
        ·go_upto_region 45 with (fail)
         go_quiet (fail);go_wp2_with fail;simp only[Exit.far];go_ret2;exact⟨⟨Rn,_,by rw[show sgw true+Rn=9223372036854775808+Rn from rfl];rfl,hfin.out⟩,by repeat (first|exact hbw.out|refine qaf ?_ _)⟩
       ·rw[if_pos (by omega)] at hb1;obtain⟨mm,hmm⟩: ∃mm,mm=m%4503599627370496:=⟨_,rfl⟩;rw[←hmm] at hb2;have hmm2:m=mm+4503599627370496:=by omega
        have hmm3:mm<4503599627370496:=by omega
        obtain⟨S,hS⟩: ∃S:Nat,S=e1*4503599627370496:=⟨_,rfl⟩;obtain⟨Rn,hRn⟩: ∃Rn:Nat,Rn=mm+S:=⟨_,rfl⟩;have hS2:S≤9218868437227405312:=by omega
        have a2:bits .and .i64 ((e1:Int)) 2047=(e1:Int):=by rw[qaH];omega
        have a3:IntKind.u64.wrap ((e1:Int))=(e1:Int):=qbA _ (by omega) (by omega);have a4:IntKind.u64.wrap (((e1:Int))*4503599627370496)=(S:Int):=by rw[qbA _ (by omega) (by omega)];omega
        have a5:bits .or .u64 ((mm:Int)) (S:Int)=(Rn:Int):=by
         have:=u64_or_nat (mm) S (by omega) (by omega);have h2:=qcq 0 (mm) (e1) (.inl rfl) (by omega) (by omega);rw[Nat.zero_add,←hS] at h2;rw[h2,←hRn] at this;exact this
        have a6:bits .or .u64 (Rn:Int) 9223372036854775808=((9223372036854775808+Rn:Nat):Int):=by
         have:=u64_or_nat Rn 9223372036854775808 (by omega) (by decide);rw[Nat.or_comm,qa1 9223372036854775808 Rn (.inr rfl) (by omega)] at this;exact this
        have hfin:=Lh (show qbm (X0*U2 1075) (U10 2000) Rn by
         rw[show Rn=(e1 - 1)*4503599627370496+m by omega];exact f2.out)
        replace hmm2:=Lh hmm2;clear f2 f3 f4 he0 hRn hS hmm mlow;go_wp2_with fail;go_step3;refine z0.out _ _ ?_;clear z0 z1;go_upto_region 43 with (fail)
        go_quiet (fail);cases ng
        ·go_wp2_with fail;simp only[Exit.far];go_ret2;exact⟨⟨Rn,_,by rw[show sgw false+Rn=Rn from Nat.zero_add _];rfl,hfin.out⟩,by repeat (first|exact hbw.out|refine qaf ?_ _)⟩
        ·go_upto_region 45 with (fail)
         go_quiet (fail);go_wp2_with fail;simp only[Exit.far];go_ret2;exact⟨⟨Rn,_,by rw[show sgw true+Rn=9223372036854775808+Rn from rfl];rfl,hfin.out⟩,by repeat (first|exact hbw.out|refine qaf ?_ _)⟩
    ·have hc:=qfF B D X 2000 n ng tr wc hd0 (by omega) (by omega) (by omega) (by omega) hD
     have hnext: ∀(w':World),(∃X1 tr1 X' E' tr',qbC w' D X' E' ng tr'∧ShR X 60 tr X1 tr1∧ShR X1 (n - 60) tr1 X' tr')∧Below B wc w'→ ∃(X' E' p' q' e1:Nat) (tr':Bool),Hid (y=(e1:Int) - 1023∧qbC w' D X' E' ng tr'∧Ph3 X0 p' q' X' tr' e1∧Below B w0 w'):=by
      rintro w' ⟨⟨X1,tr1,X',E',tr',h1,h2,h2b⟩,h3⟩;exact⟨X',E',p,n,1,tr',Lh ⟨by omega,h1,qmM hp2 hXl hn (by omega) h2 h2b,hb2.trans h3⟩⟩
     replace hc:=Lh hc;replace hnext:=Lh hnext;clear hp2 hd0 hst hxo hv hn hx hXl hb2 hh hy;go_wp2_with fail;refine hc.out.mono ?_;rintro e' wz ⟨rfl,h12⟩;obtain⟨X',E',p',q',e1,tr',hst2⟩:=hnext.out wz h12;clear h12 hc hnext;go_upto_region 30 with (fail)
     clear u1 u2 u3;have hG2:=hGx.out wz hst2.out.2.2.2;have k0:=hG2.i0;have k1:=hG2.i1;have k2:=hG2.i2;have hL2:=hG2.lc;have hyo:=hst2.out.1;have hye:y+1023=(e1:Int):=by omega
     clear hyo;have he0:=hst2.out.2.2.1.e0
     by_cases he:2047≤e1
     ·have r1:decide ((2047:Int)≤(e1:Int))=true:=dT (by omega);have r1':decide (2047≤e1)=true:=dT he;have hfin:=Lh (qg8 hst2.out.2.2.1 he);have hbw:=Lh hst2.out.2.2.2;have cn:=hst2.out.2.1.ng;clear hst2 hG2 hL2;go_upto_region 30 with (fail)
      go_quiet (fail);go_wp2_with fail;go_step3;refine z1.out _ _ ?_;clear z0 z1;go_upto_region 40 with (fail)
      go_quiet (fail);go_wp2_with fail;go_step3;go_upto_region 43 with (fail)
      go_quiet (fail);cases ng
      ·go_wp2_with fail;simp only[Exit.far];go_ret2;exact⟨⟨INF,_,rfl,hfin.out⟩,by repeat (first|exact hbw.out|refine qaf ?_ _)⟩
      ·go_upto_region 45 with (fail)
       go_quiet (fail);go_wp2_with fail;simp only[Exit.far];go_ret2;exact⟨⟨INF,_,rfl,hfin.out⟩,by repeat (first|exact hbw.out|refine qaf ?_ _)⟩
     ·have r1:decide ((2047:Int)≤(e1:Int))=false:=dF (by omega);have r1':decide (2047≤e1)=false:=dF he
      have hE2:E'≤2000:=by
       have h1:=qcr (Nat.lt_of_le_of_lt hst2.out.2.1.Ebd.1 hst2.out.2.2.1.xb);omega
      have hc3:=Lh (fun k=>qca B D X' E' 53 ng tr' (wz.drewN k) (hst2.out.2.1.oth rfl) (by omega) (by decide) (by decide) (hL2.on (Nat.le_refl _) (qaf (Below.refl _ _) k)) hD);clear hG2 hL2 hE2;go_upto_region 30 with (fail)
      go_quiet (fail);go_wp2_with fail;refine(hc3.out _).mono ?_;rintro e' w2 ⟨rfl,⟨X2,E2,tr2,d2',cut2⟩,hb3⟩;have d2:=d2'.toN;obtain⟨f1,f2',f3,f4⟩:=qgQ hst2.out.2.2.1 (by omega) cut2
      have hE3:E2≤2020:=by
       have h1:U10 (E2 - 1)<U10 2016:=by
        refine Nat.lt_of_le_of_lt d2.Ebd.1 (Nat.lt_of_lt_of_le f1 ?_);rw[qcO 2000 16,Nat.mul_comm (U10 2000)];exact Nat.mul_le_mul_right _ (by decide)
       have:=qcr h1;omega
      have hr:=qk0 D X2 E2 ng tr2 w2 d2' hE3 f1;have cn:=d2.ng;have hbw:=Lh ((qaf hst2.out.2.2.2 _).trans hb3);have hG3:=hGx.out w2 hbw.out;have l0:=hG3.i0;have l1:=hG3.i1;have l2:=hG3.i2;obtain⟨m,hm⟩: ∃m,m=qfC X2 tr2:=⟨_,rfl⟩;rw[←hm] at hr f2' f3 f4;have f2:=Lh f2';replace hr:=Lh hr;have he6:e1≤2046:=by omega
      clear hst2 hb3 hG3 d2 d2' cut2 f1 f2' hE3 hm hc3 k0 k1 k2 r1 r1' he;go_wp2_with fail;refine hr.out.mono ?_;rintro e' w3 ⟨rfl,hw3⟩;subst hw3;clear hr
      by_cases m53:m=9007199254740992
      ·subst m53;have hyf:y+1+1023=(e1:Int)+1:=by omega
       by_cases e46:e1=2046
       ·subst e46;have hfin:=Lh (show qbm (X0*U2 1075) (U10 2000) INF from f2.out);have hy3:y=1023:=by omega
        clear hyf hye f2;subst hy3;go_upto_region 36 with (fail)
        go_quiet (fail);go_wp2_with fail;go_step3;refine z1.out _ _ ?_;clear z0 z1;go_upto_region 40 with (fail)
        go_quiet (fail);go_wp2_with fail;go_step3;go_upto_region 43 with (fail)
        go_quiet (fail);cases ng
        ·go_wp2_with fail;simp only[Exit.far];go_ret2;exact⟨⟨INF,_,rfl,hfin.out⟩,by repeat (first|exact hbw.out|refine qaf ?_ _)⟩
        ·go_upto_region 45 with (fail)
         go_quiet (fail);go_wp2_with fail;simp only[Exit.far];go_ret2;exact⟨⟨INF,_,rfl,hfin.out⟩,by repeat (first|exact hbw.out|refine qaf ?_ _)⟩
       ·have r2:decide ((2047:Int)≤(e1:Int)+1)=false:=dF (by omega);have b1:bits .and .u64 4503599627370496 4503599627370496=4503599627370496:=by decide
        have b2:bits .and .u64 4503599627370496 4503599627370495=0:=by decide
        obtain⟨S,hS⟩: ∃S:Nat,S=(e1+1)*4503599627370496:=⟨_,rfl⟩;obtain⟨Rn,hRn⟩: ∃Rn:Nat,Rn=0+S:=⟨_,rfl⟩;have hS2:S≤9218868437227405312:=by omega
        have a2:bits .and .i64 ((e1:Int)+1) 2047=(e1:Int)+1:=by rw[qaH];omega
        have a3:IntKind.u64.wrap ((e1:Int)+1)=(e1:Int)+1:=qbA _ (by omega) (by omega);have a4:IntKind.u64.wrap (((e1:Int)+1)*4503599627370496)=(S:Int):=by rw[qbA _ (by omega) (by omega)];omega
        have a5:bits .or .u64 (0) (S:Int)=(Rn:Int):=by
         have:=u64_or_nat (0) S (by omega) (by omega);have h2:=qcq 0 (0) ((e1+1)) (.inl rfl) (by omega) (by omega);rw[Nat.zero_add,←hS] at h2;rw[h2,←hRn] at this;exact this
        have a6:bits .or .u64 (Rn:Int) 9223372036854775808=((9223372036854775808+Rn:Nat):Int):=by
         have:=u64_or_nat Rn 9223372036854775808 (by omega) (by decide);rw[Nat.or_comm,qa1 9223372036854775808 Rn (.inr rfl) (by omega)] at this;exact this
        have hfin:=Lh (show qbm (X0*U2 1075) (U10 2000) Rn by
         rw[show Rn=(e1 - 1)*4503599627370496+9007199254740992 by omega];exact f2.out)
        have he5:e1≤2045:=by omega
        clear f2 f3 f4 hye e46 he0 hRn hS;go_upto_region 36 with (fail)
        go_quiet (fail);go_wp2_with fail;go_step3;refine z0.out _ _ ?_;clear z0 z1;go_upto_region 43 with (fail)
        go_quiet (fail);cases ng
        ·go_wp2_with fail;simp only[Exit.far];go_ret2;exact⟨⟨Rn,_,by rw[show sgw false+Rn=Rn from Nat.zero_add _];rfl,hfin.out⟩,by repeat (first|exact hbw.out|refine qaf ?_ _)⟩
        ·go_upto_region 45 with (fail)
         go_quiet (fail);go_wp2_with fail;simp only[Exit.far];go_ret2;exact⟨⟨Rn,_,by rw[show sgw true+Rn=9223372036854775808+Rn from rfl];rfl,hfin.out⟩,by repeat (first|exact hbw.out|refine qaf ?_ _)⟩
      ·have m1:((m:Int)==9007199254740992)=false:=by rw[beq_eq_false_iff_ne];omega
       have hm9:m<9007199254740992:=by omega
       have hb1:bits .and .u64 (m:Int) 4503599627370496=(((if 4503599627370496≤m then 4503599627370496 else 0:Nat)):Int):=by
        have:=u64_and_nat m 4503599627370496 (by omega) (by decide);have h2:=qfX 0 m (.inl rfl) hm9;rw[Nat.zero_add] at h2;rw[h2] at this;exact this
       have hb2:bits .and .u64 (m:Int) 4503599627370495=((m%4503599627370496:Nat):Int):=by
        have:=u64_and_nat m 4503599627370495 (by omega) (by decide);refine Eq.trans this ?_;rw[show(4503599627370495:Nat)=2^52 - 1 from rfl,Nat.and_two_pow_sub_one_eq_mod]
       by_cases mlow:m<4503599627370496
       ·have he1:e1=1:=by
         apply Nat.le_antisymm _ he0;apply Nat.le_of_not_lt;intro hlt;have:=f4 hlt;omega
        subst he1;rw[if_neg (by omega)] at hb1;rw[Nat.mod_eq_of_lt mlow] at hb2;obtain⟨S,hS⟩: ∃S:Nat,S=0*4503599627370496:=⟨_,rfl⟩;obtain⟨Rn,hRn⟩: ∃Rn:Nat,Rn=m+S:=⟨_,rfl⟩;have hS2:S≤9218868437227405312:=by omega
        have a2:bits .and .i64 (0) 2047=0:=by rw[qaH];omega
        have a3:IntKind.u64.wrap (0)=0:=qbA _ (by omega) (by omega);have a4:IntKind.u64.wrap ((0)*4503599627370496)=(S:Int):=by rw[qbA _ (by omega) (by omega)];omega
        have a5:bits .or .u64 ((m:Int)) (S:Int)=(Rn:Int):=by
         have:=u64_or_nat (m) S (by omega) (by omega);have h2:=qcq 0 (m) (0) (.inl rfl) (by omega) (by omega);rw[Nat.zero_add,←hS] at h2;rw[h2,←hRn] at this;exact this
        have a6:bits .or .u64 (Rn:Int) 9223372036854775808=((9223372036854775808+Rn:Nat):Int):=by
         have:=u64_or_nat Rn 9223372036854775808 (by omega) (by decide);rw[Nat.or_comm,qa1 9223372036854775808 Rn (.inr rfl) (by omega)] at this;exact this
        have hfin:=Lh (show qbm (X0*U2 1075) (U10 2000) Rn by
         rw[show Rn=(1 - 1)*4503599627370496+m by rw[hRn,hS,Nat.sub_self,Nat.zero_mul,Nat.zero_add,Nat.add_zero]];exact f2.out)
        have hS0:S=0:=by rw[hS]
        have a7:bits .or .u64 (m:Int) 0=(Rn:Int):=by rw[hS0] at a5;exact a5
        clear hS0;clear f2 f3 f4 he0 hRn hS;go_wp2_with fail;go_step3;refine z0.out _ _ ?_;clear z0 z1;go_upto_region 43 with (fail)
        go_quiet (fail);cases ng
        ·go_wp2_with fail;simp only[Exit.far];go_ret2;exact⟨⟨Rn,_,by rw[show sgw false+Rn=Rn from Nat.zero_add _];rfl,hfin.out⟩,by repeat (first|exact hbw.out|refine qaf ?_ _)⟩
        ·go_upto_region 45 with (fail)
         go_quiet (fail);go_wp2_with fail;simp only[Exit.far];go_ret2;exact⟨⟨Rn,_,by rw[show sgw true+Rn=9223372036854775808+Rn from rfl];rfl,hfin.out⟩,by repeat (first|exact hbw.out|refine qaf ?_ _)⟩
       ·rw[if_pos (by omega)] at hb1;obtain⟨mm,hmm⟩: ∃mm,mm=m%4503599627370496:=⟨_,rfl⟩;rw[←hmm] at hb2;have hmm2:m=mm+4503599627370496:=by omega
        have hmm3:mm<4503599627370496:=by omega
        obtain⟨S,hS⟩: ∃S:Nat,S=e1*4503599627370496:=⟨_,rfl⟩;obtain⟨Rn,hRn⟩: ∃Rn:Nat,Rn=mm+S:=⟨_,rfl⟩;have hS2:S≤9218868437227405312:=by omega
        have a2:bits .and .i64 ((e1:Int)) 2047=(e1:Int):=by rw[qaH];omega
        have a3:IntKind.u64.wrap ((e1:Int))=(e1:Int):=qbA _ (by omega) (by omega);have a4:IntKind.u64.wrap (((e1:Int))*4503599627370496)=(S:Int):=by rw[qbA _ (by omega) (by omega)];omega
        have a5:bits .or .u64 ((mm:Int)) (S:Int)=(Rn:Int):=by
         have:=u64_or_nat (mm) S (by omega) (by omega);have h2:=qcq 0 (mm) (e1) (.inl rfl) (by omega) (by omega);rw[Nat.zero_add,←hS] at h2;rw[h2,←hRn] at this;exact this
        have a6:bits .or .u64 (Rn:Int) 9223372036854775808=((9223372036854775808+Rn:Nat):Int):=by
         have:=u64_or_nat Rn 9223372036854775808 (by omega) (by decide);rw[Nat.or_comm,qa1 9223372036854775808 Rn (.inr rfl) (by omega)] at this;exact this
        have hfin:=Lh (show qbm (X0*U2 1075) (U10 2000) Rn by
         rw[show Rn=(e1 - 1)*4503599627370496+m by omega];exact f2.out)
        replace hmm2:=Lh hmm2;clear f2 f3 f4 he0 hRn hS hmm mlow;go_wp2_with fail;go_step3;refine z0.out _ _ ?_;clear z0 z1;go_upto_region 43 with (fail)
        go_quiet (fail);cases ng
        ·go_wp2_with fail;simp only[Exit.far];go_ret2;exact⟨⟨Rn,_,by rw[show sgw false+Rn=Rn from Nat.zero_add _];rfl,hfin.out⟩,by repeat (first|exact hbw.out|refine qaf ?_ _)⟩
        ·go_upto_region 45 with (fail)
         go_quiet (fail);go_wp2_with fail;simp only[Exit.far];go_ret2;exact⟨⟨Rn,_,by rw[show sgw true+Rn=9223372036854775808+Rn from rfl];rfl,hfin.out⟩,by repeat (first|exact hbw.out|refine qaf ?_ _)⟩
   ·have u1:decide (v< -1022)=false:=dF (by omega);obtain⟨y,hy⟩: ∃y:Int,y=v:=⟨_,rfl⟩;rw[←hy] at hv1 u1;have y1: -1100≤y:=by omega
    have y2:y≤1100:=by omega
    obtain⟨e1,hee⟩: ∃e1,e1=q+1022 - p:=⟨_,rfl⟩;have hst2:=Lh (show y=(e1:Int) - 1023∧qbC wc D X 2000 ng tr∧Ph3 X0 p q X tr e1∧Below B w0 wc from⟨by omega,hd0,by rw[hee];exact qme hp2 hXl hh (by omega),hb2⟩);obtain⟨X',hX'⟩: ∃X',X'=X:=⟨_,rfl⟩;obtain⟨E',hE'⟩: ∃E',E'=2000:=⟨_,rfl⟩;obtain⟨tr',htr'⟩: ∃tr',tr'=tr:=⟨_,rfl⟩;rw[←hX',←htr',←hE'] at hst2;clear hp2 hd0 hst hxo hv hx hXl hb2 hh hy hee hX' hE' htr' hden;have hG2:=hGx.out wc hst2.out.2.2.2;have k0:=hG2.i0;have k1:=hG2.i1;have k2:=hG2.i2;have hL2:=hG2.lc;have hyo:=hst2.out.1;have hye:y+1023=(e1:Int):=by omega
    clear hyo;have he0:=hst2.out.2.2.1.e0
    by_cases he:2047≤e1
    ·have r1:decide ((2047:Int)≤(e1:Int))=true:=dT (by omega);have r1':decide (2047≤e1)=true:=dT he;have hfin:=Lh (qg8 hst2.out.2.2.1 he);have hbw:=Lh hst2.out.2.2.2;have cn:=hst2.out.2.1.ng;clear hst2 hG2 hL2;go_upto_region 30 with (fail)
     go_quiet (fail);go_wp2_with fail;go_step3;refine z1.out _ _ ?_;clear z0 z1;go_upto_region 40 with (fail)
     go_quiet (fail);go_wp2_with fail;go_step3;go_upto_region 43 with (fail)
     go_quiet (fail);cases ng
     ·go_wp2_with fail;simp only[Exit.far];go_ret2;exact⟨⟨INF,_,rfl,hfin.out⟩,by repeat (first|exact hbw.out|refine qaf ?_ _)⟩
     ·go_upto_region 45 with (fail)
      go_quiet (fail);go_wp2_with fail;simp only[Exit.far];go_ret2;exact⟨⟨INF,_,rfl,hfin.out⟩,by repeat (first|exact hbw.out|refine qaf ?_ _)⟩
    ·have r1:decide ((2047:Int)≤(e1:Int))=false:=dF (by omega);have r1':decide (2047≤e1)=false:=dF he
     have hE2:E'≤2000:=by
      have h1:=qcr (Nat.lt_of_le_of_lt hst2.out.2.1.Ebd.1 hst2.out.2.2.1.xb);omega
     have hc3:=Lh (fun k=>qca B D X' E' 53 ng tr' (wc.drewN k) (hst2.out.2.1.oth rfl) (by omega) (by decide) (by decide) (hL2.on (Nat.le_refl _) (qaf (Below.refl _ _) k)) hD);clear hG2 hL2 hE2;go_upto_region 30 with (fail)
     go_quiet (fail);go_wp2_with fail;refine(hc3.out _).mono ?_;rintro e' w2 ⟨rfl,⟨X2,E2,tr2,d2',cut2⟩,hb3⟩;have d2:=d2'.toN;obtain⟨f1,f2',f3,f4⟩:=qgQ hst2.out.2.2.1 (by omega) cut2
     have hE3:E2≤2020:=by
      have h1:U10 (E2 - 1)<U10 2016:=by
       refine Nat.lt_of_le_of_lt d2.Ebd.1 (Nat.lt_of_lt_of_le f1 ?_);rw[qcO 2000 16,Nat.mul_comm (U10 2000)];exact Nat.mul_le_mul_right _ (by decide)
      have:=qcr h1;omega
     have hr:=qk0 D X2 E2 ng tr2 w2 d2' hE3 f1;have cn:=d2.ng;have hbw:=Lh ((qaf hst2.out.2.2.2 _).trans hb3);have hG3:=hGx.out w2 hbw.out;have l0:=hG3.i0;have l1:=hG3.i1;have l2:=hG3.i2;obtain⟨m,hm⟩: ∃m,m=qfC X2 tr2:=⟨_,rfl⟩;rw[←hm] at hr f2' f3 f4;have f2:=Lh f2';replace hr:=Lh hr;have he6:e1≤2046:=by omega
     clear hst2 hb3 hG3 d2 d2' cut2 f1 f2' hE3 hm hc3 k0 k1 k2 r1 r1' he;go_wp2_with fail;refine hr.out.mono ?_;rintro e' w3 ⟨rfl,hw3⟩;subst hw3;clear hr
     by_cases m53:m=9007199254740992
     ·subst m53;have hyf:y+1+1023=(e1:Int)+1:=by omega
      by_cases e46:e1=2046
      ·subst e46;have hfin:=Lh (show qbm (X0*U2 1075) (U10 2000) INF from f2.out);have hy3:y=1023:=by omega
       clear hyf hye f2;subst hy3;go_upto_region 36 with (fail)
       go_quiet (fail);go_wp2_with fail;go_step3;refine z1.out _ _ ?_;clear z0 z1;go_upto_region 40 with (fail)
       go_quiet (fail);go_wp2_with fail;go_step3;go_upto_region 43 with (fail)
       go_quiet (fail);cases ng
       ·go_wp2_with fail;simp only[Exit.far];go_ret2;exact⟨⟨INF,_,rfl,hfin.out⟩,by repeat (first|exact hbw.out|refine qaf ?_ _)⟩
       ·go_upto_region 45 with (fail)
        go_quiet (fail);go_wp2_with fail;simp only[Exit.far];go_ret2;exact⟨⟨INF,_,rfl,hfin.out⟩,by repeat (first|exact hbw.out|refine qaf ?_ _)⟩
      ·have r2:decide ((2047:Int)≤(e1:Int)+1)=false:=dF (by omega);have b1:bits .and .u64 4503599627370496 4503599627370496=4503599627370496:=by decide
       have b2:bits .and .u64 4503599627370496 4503599627370495=0:=by decide
       obtain⟨S,hS⟩: ∃S:Nat,S=(e1+1)*4503599627370496:=⟨_,rfl⟩;obtain⟨Rn,hRn⟩: ∃Rn:Nat,Rn=0+S:=⟨_,rfl⟩;have hS2:S≤9218868437227405312:=by omega
       have a2:bits .and .i64 ((e1:Int)+1) 2047=(e1:Int)+1:=by rw[qaH];omega
       have a3:IntKind.u64.wrap ((e1:Int)+1)=(e1:Int)+1:=qbA _ (by omega) (by omega);have a4:IntKind.u64.wrap (((e1:Int)+1)*4503599627370496)=(S:Int):=by rw[qbA _ (by omega) (by omega)];omega
       have a5:bits .or .u64 (0) (S:Int)=(Rn:Int):=by
        have:=u64_or_nat (0) S (by omega) (by omega);have h2:=qcq 0 (0) ((e1+1)) (.inl rfl) (by omega) (by omega);rw[Nat.zero_add,←hS] at h2;rw[h2,←hRn] at this;exact this
       have a6:bits .or .u64 (Rn:Int) 9223372036854775808=((9223372036854775808+Rn:Nat):Int):=by
        have:=u64_or_nat Rn 9223372036854775808 (by omega) (by decide);rw[Nat.or_comm,qa1 9223372036854775808 Rn (.inr rfl) (by omega)] at this;exact this
       have hfin:=Lh (show qbm (X0*U2 1075) (U10 2000) Rn by
        rw[show Rn=(e1 - 1)*4503599627370496+9007199254740992 by omega];exact f2.out)
       have he5:e1≤2045:=by omega
       clear f2 f3 f4 hye e46 he0 hRn hS;go_upto_region 36 with (fail)
       go_quiet (fail);go_wp2_with fail;go_step3;refine z0.out _ _ ?_;clear z0 z1;go_upto_region 43 with (fail)
       go_quiet (fail);cases ng
       ·go_wp2_with fail;simp only[Exit.far];go_ret2;exact⟨⟨Rn,_,by rw[show sgw false+Rn=Rn from Nat.zero_add _];rfl,hfin.out⟩,by repeat (first|exact hbw.out|refine qaf ?_ _)⟩
       ·go_upto_region 45 with (fail)
        go_quiet (fail);go_wp2_with fail;simp only[Exit.far];go_ret2;exact⟨⟨Rn,_,by rw[show sgw true+Rn=9223372036854775808+Rn from rfl];rfl,hfin.out⟩,by repeat (first|exact hbw.out|refine qaf ?_ _)⟩
     ·have m1:((m:Int)==9007199254740992)=false:=by rw[beq_eq_false_iff_ne];omega
      have hm9:m<9007199254740992:=by omega
      have hb1:bits .and .u64 (m:Int) 4503599627370496=(((if 4503599627370496≤m then 4503599627370496 else 0:Nat)):Int):=by
       have:=u64_and_nat m 4503599627370496 (by omega) (by decide);have h2:=qfX 0 m (.inl rfl) hm9;rw[Nat.zero_add] at h2;rw[h2] at this;exact this
      have hb2:bits .and .u64 (m:Int) 4503599627370495=((m%4503599627370496:Nat):Int):=by
       have:=u64_and_nat m 4503599627370495 (by omega) (by decide);refine Eq.trans this ?_;rw[show(4503599627370495:Nat)=2^52 - 1 from rfl,Nat.and_two_pow_sub_one_eq_mod]
      by_cases mlow:m<4503599627370496
      ·have he1:e1=1:=by
        apply Nat.le_antisymm _ he0;apply Nat.le_of_not_lt;intro hlt;have:=f4 hlt;omega
       subst he1;rw[if_neg (by omega)] at hb1;rw[Nat.mod_eq_of_lt mlow] at hb2;obtain⟨S,hS⟩: ∃S:Nat,S=0*4503599627370496:=⟨_,rfl⟩;obtain⟨Rn,hRn⟩: ∃Rn:Nat,Rn=m+S:=⟨_,rfl⟩;have hS2:S≤9218868437227405312:=by omega
       have a2:bits .and .i64 (0) 2047=0:=by rw[qaH];omega
       have a3:IntKind.u64.wrap (0)=0:=qbA _ (by omega) (by omega);have a4:IntKind.u64.wrap ((0)*4503599627370496)=(S:Int):=by rw[qbA _ (by omega) (by omega)];omega
       have a5:bits .or .u64 ((m:Int)) (S:Int)=(Rn:Int):=by
        have:=u64_or_nat (m) S (by omega) (by omega);have h2:=qcq 0 (m) (0) (.inl rfl) (by omega) (by omega);rw[Nat.zero_add,←hS] at h2;rw[h2,←hRn] at this;exact this
       have a6:bits .or .u64 (Rn:Int) 9223372036854775808=((9223372036854775808+Rn:Nat):Int):=by
        have:=u64_or_nat Rn 9223372036854775808 (by omega) (by decide);rw[Nat.or_comm,qa1 9223372036854775808 Rn (.inr rfl) (by omega)] at this;exact this
       have hfin:=Lh (show qbm (X0*U2 1075) (U10 2000) Rn by
        rw[show Rn=(1 - 1)*4503599627370496+m by rw[hRn,hS,Nat.sub_self,Nat.zero_mul,Nat.zero_add,Nat.add_zero]];exact f2.out)
       have hS0:S=0:=by rw[hS]
       have a7:bits .or .u64 (m:Int) 0=(Rn:Int):=by rw[hS0] at a5;exact a5
       clear hS0;clear f2 f3 f4 he0 hRn hS;go_wp2_with fail;go_step3;refine z0.out _ _ ?_;clear z0 z1;go_upto_region 43 with (fail)
       go_quiet (fail);cases ng
       ·go_wp2_with fail;simp only[Exit.far];go_ret2;exact⟨⟨Rn,_,by rw[show sgw false+Rn=Rn from Nat.zero_add _];rfl,hfin.out⟩,by repeat (first|exact hbw.out|refine qaf ?_ _)⟩
       ·go_upto_region 45 with (fail)
        go_quiet (fail);go_wp2_with fail;simp only[Exit.far];go_ret2;exact⟨⟨Rn,_,by rw[show sgw true+Rn=9223372036854775808+Rn from rfl];rfl,hfin.out⟩,by repeat (first|exact hbw.out|refine qaf ?_ _)⟩
      ·rw[if_pos (by omega)] at hb1;obtain⟨mm,hmm⟩: ∃mm,mm=m%4503599627370496:=⟨_,rfl⟩;rw[←hmm] at hb2;have hmm2:m=mm+4503599627370496:=by omega
       have hmm3:mm<4503599627370496:=by omega
       obtain⟨S,hS⟩: ∃S:Nat,S=e1*4503599627370496:=⟨_,rfl⟩;obtain⟨Rn,hRn⟩: ∃Rn:Nat,Rn=mm+S:=⟨_,rfl⟩;have hS2:S≤9218868437227405312:=by omega
       have a2:bits .and .i64 ((e1:Int)) 2047=(e1:Int):=by rw[qaH];omega
       have a3:IntKind.u64.wrap ((e1:Int))=(e1:Int):=qbA _ (by omega) (by omega);have a4:IntKind.u64.wrap (((e1:Int))*4503599627370496)=(S:Int):=by rw[qbA _ (by omega) (by omega)];omega
       have a5:bits .or .u64 ((mm:Int)) (S:Int)=(Rn:Int):=by
        have:=u64_or_nat (mm) S (by omega) (by omega);have h2:=qcq 0 (mm) (e1) (.inl rfl) (by omega) (by omega);rw[Nat.zero_add,←hS] at h2;rw[h2,←hRn] at this;exact this
       have a6:bits .or .u64 (Rn:Int) 9223372036854775808=((9223372036854775808+Rn:Nat):Int):=by
        have:=u64_or_nat Rn 9223372036854775808 (by omega) (by decide);rw[Nat.or_comm,qa1 9223372036854775808 Rn (.inr rfl) (by omega)] at this;exact this
       have hfin:=Lh (show qbm (X0*U2 1075) (U10 2000) Rn by
        rw[show Rn=(e1 - 1)*4503599627370496+m by omega];exact f2.out)
       replace hmm2:=Lh hmm2;clear f2 f3 f4 he0 hRn hS hmm mlow;go_wp2_with fail;go_step3;refine z0.out _ _ ?_;clear z0 z1;go_upto_region 43 with (fail)
       go_quiet (fail);cases ng
       ·go_wp2_with fail;simp only[Exit.far];go_ret2;exact⟨⟨Rn,_,by rw[show sgw false+Rn=Rn from Nat.zero_add _];rfl,hfin.out⟩,by repeat (first|exact hbw.out|refine qaf ?_ _)⟩
       ·go_upto_region 45 with (fail)
        go_quiet (fail);go_wp2_with fail;simp only[Exit.far];go_ret2;exact⟨⟨Rn,_,by rw[show sgw true+Rn=9223372036854775808+Rn from rfl];rfl,hfin.out⟩,by repeat (first|exact hbw.out|refine qaf ?_ _)⟩
end Go.Proofs.YtdeimnnpcfncpaaGreatDoor
