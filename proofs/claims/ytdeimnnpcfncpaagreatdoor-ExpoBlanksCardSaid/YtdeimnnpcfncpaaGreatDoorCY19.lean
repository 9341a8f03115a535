/- Parts of the proof: HD. -/
import Derived.Deep.CutBlock
import Derived.Test.YtdeimnnpcfncpaaGreatDoorCY14
set_option linter.unusedVariables false
set_option linter.unusedSimpArgs false
set_option maxRecDepth 100000
set_option maxHeartbeats 64000000
namespace Go.Proofs.YtdeimnnpcfncpaaGreatDoor
open Go Go.RowKit
def wl (g:Nat→Nat) (T W p i:Nat):Nat:=if p≤i∧i<W then lb T W i else g i
theorem qso (g:Nat→Nat) (T W i:Nat):wl g T W W i=g i:=by unfold wl;rw[if_neg (by omega)]
theorem qoz (g:Nat→Nat) (T W p i:Nat) (h:i<p):wl g T W p i=g i:=by unfold wl;rw[if_neg (by omega)]
theorem qjl (g:Nat→Nat) (T W p:Nat) (h:p<W) (i:Nat):upd (wl g T W (p+1)) p (lb T W p) i=wl g T W p i:=by
 by_cases e:i=p
 ·subst e;rw[qeA];unfold wl;rw[if_pos (by omega)]
 ·rw[upd_ne _ _ e];unfold wl
  by_cases c:p+1≤i∧i<W
  ·rw[if_pos c,if_pos (by omega)]
  ·rw[if_neg c,if_neg (by omega)]
theorem qn2 (g:Nat→Nat) (T W p i:Nat) (h:800≤p) (hi:i<800):wl g T W (p+1) i=wl g T W p i:=by
 rw[qoz g T W _ i (by omega),qoz g T W _ i (by omega)]
theorem qbA (n:Int) (h0:0≤n) (h1:n<18446744073709551616):IntKind.u64.wrap n=n:=by
 rw[IntKind.wrap_u64];omega
theorem qnt (B D:Nat) (g:Nat→Nat) (nd k:Nat) (dp:Int) (ng tr:Bool) (w:World) (h:qaK w D g nd dp ng tr) (hn0:1≤nd) (hn:nd≤800) (hg:qdm g nd) (h0:48<g 0) (hk:1≤k) (hk2:k≤60) (hL:LcP w) (hB:B≤D) (hp1: -100000≤dp) (hp2:dp≤100000):
 Calls Tryz.prog 303 #[.pointer (some ⟨D,0,none⟩),.int .u64 k] w fun e w'=>e= .returned (.tuple #[])∧(∃(dw n:Nat) (q:Nat→Nat),dw≤61∧10^(nd+dw - 1)≤num g nd*2^k∧num g nd*2^k<10^(nd+dw)∧(∀i,i<min (nd+dw) 800→q i=lb (num g nd*2^k) (nd+dw) i)∧n≤min (nd+dw) 800∧(∀i,n≤i→i<min (nd+dw) 800→q i=48)∧(n=0∨q (n - 1)≠48)∧qaK w' D q n (if n=0 then 0 else dp+dw) ng (tr||lt8 (num g nd*2^k) (nd+dw) (nd+dw)))∧Below B w w':=by
 obtain⟨b,off,cap,l1,l2,l3⟩:=hL;obtain⟨l4,l5⟩:=l3 k (by omega);obtain⟨q1,q2,q3,q4,q5,q6,q7,q8⟩:=qs6 k hk hk2;have hlen:=qpc hg hn0 h0 q2 q3 q4 q5 q6;have hd20:ldl k≤61:=by omega
 obtain⟨L,hLL⟩: ∃L,L=(lcs k).size:=⟨_,rfl⟩;have hpf:=fun n=>qrQ D g nd nd dp ng tr (lcs k) (w.drewN n) (h.drew n) hn (by omega) hg q1 (.inr q7)
 obtain⟨bb,hbb⟩: ∃bb,bb=decide (num (ext g nd) (lcs k).size<num (sb (lcs k)) (lcs k).size):=⟨_,rfl⟩;rw[←hbb] at hpf;obtain⟨dw,hdw⟩: ∃dw,dw=if bb=true then ldl k - 1 else ldl k:=⟨_,rfl⟩
 obtain⟨T,hT⟩: ∃T,T=num g nd*2^k:=⟨_,rfl⟩;rw[←hT] at hlen
 have hW:10^(nd+dw - 1)≤T∧T<10^(nd+dw):=by
  cases bb with
  |true=>
   rw[if_pos rfl] at hdw;have:=hlen.2 (of_decide_eq_true hbb.symm);rw[show nd+ldl k - 1=nd+dw by omega] at this;exact this
  |false=>
   rw[if_neg (by decide)] at hdw;have:=hlen.1 (Nat.not_lt.1 (of_decide_eq_false hbb.symm));rw[←hdw] at this;exact this
 have hdw20:dw≤61:=by split at hdw<;>omega
 have hdt:bb=true→(ldl k:Int) - 1=(dw:Int):=fun e=>by rw[if_pos e] at hdw;omega
 have hdf:bb=false→ldl k=dw:=fun e=>by rw[e,if_neg (by decide)] at hdw;exact hdw.symm
 obtain⟨dl,hdl⟩: ∃dl,dl=ldl k:=⟨_,rfl⟩;rw[←hdl] at l4 hdt hdf;replace hW:=Lh hW;replace hT:=Lh hT;have c1:=h.nd;have hpf':=Lh hpf;have H0:=Lh h;have k1:decide ((k:Int)<61)=true:=dT (by omega);have k1':decide (k<61)=true:=dT (by omega);have n1:decide ((nd:Int)≤800)=true:=dT (by omega);have n1':decide (nd≤800)=true:=dT (by omega);have hal:Tryz.prog.arrayLen 339=800:=by kernel_rfl
 have hsl: ∀W,(Instr.sliceAt 339 (.pointer (some ⟨D,0,none⟩)) (some (.int .i64 0)) (some (.int .i64 (nd:Int))) none).run Tryz.prog W= .ok (.slice (some ⟨D,0,none⟩) nd 800) W:=fun W=>by
  rw[run_sliceAt_array_lh W 339 ⟨D,0,none⟩ (by simp[Program.arrayLen,Program.elem,Tryz.underlying339]) .i64 .i64 0 (nd:Int) (by omega) (by omega) (by rw[hal];omega)];go_simp
 clear hal;clear h hpf hlen q1 q2 q3 q4 q5 q6 q7 q8 l3 hLL hdl hbb hdw hd20;go_enter Tryz.func303,Tryz.ntmps303;go_upto_region 1 with (fail)
 go_quiet ((go_at_call 306;exact Calls.quiet_of (hpf'.out _)));obtain⟨W,hWd⟩: ∃W,W=nd+dw:=⟨_,rfl⟩;rw[←hWd] at hW;replace hWd:=Lh hWd
 have hD1:Hid (qaK (w.drewN nq) D (wl g T W (nd+dw)) nd dp ng (tr||lt8 T W (nd - nd))):=Lh (by
  rw[Nat.sub_self,qnz,Bool.or_false,←hWd.out]
  exact(H0.out.drew nq).congr fun i _=>(qso g T W i).symm)
 have hb1:Hid (Below B w (w.drewN nq)):=Lh (qaf (Below.refl _ _) _);cases bb
 all_goals
  try (have hdf':=hdf rfl;subst dl)
  try have hdt':=hdt rfl
  clear hdt hdf;go_upto_block 0 with (fail)
  clear l1 l4 l5 hsl hpf';obtain⟨wq,hwq⟩: ∃wq,wq=w.drewN nq:=⟨_,rfl⟩;rw[←hwq] at hD1 hb1⊢;clear hwq c1;go_cut [5,6,7] (fun s5 s6 s7 wx=> ∃n:Nat,s6= .int .i64 (dw:Int)∧s7= .int .u64 (n:Int)∧Hid (n=T/10^nd)∧n<2^k∧Hid (qaK wx D (wl g T W dw) nd dp ng (tr||lt8 T W nd))∧Hid (Below B w wx))
  case first=>
   go_wp2_with fail;go_loopg [5,6,7] (nd+1) (fun gk s5 s6 s7 wx=> ∃q p n:Nat,q<gk∧q≤nd∧s5= .int .i64 ((q:Int) - 1)∧s6= .int .i64 (p:Int)∧Hid (p=q+dw)∧s7= .int .u64 (n:Int)∧Hid (n+num g q*2^k=T/10^(nd - q))∧Hid (n<2^k)∧Hid (qaK wx D (wl g T W p) nd dp ng (tr||lt8 T W (nd - q)))∧Hid (Below B w wx))
   case atStart=>exact⟨nd,nd+dw,0,by omega,by omega,by go_num,by go_num,Lh rfl,rfl,Lh (by rw[←hT.out,Nat.sub_self,Nat.pow_zero,Nat.div_one,Nat.zero_add]),Lh (Nat.two_pow_pos k),hD1,hb1⟩
   case round=>
    obtain⟨q,p,n,hqg,hqn,rfl,rfl,hp,rfl,hI,hnk,hD,hb⟩:=hrel
    by_cases hq:q=0
    ·subst hq
     have hfin:Hid (p=dw∧n=T/10^nd):=Lh (by
      have:=hI.out;have:=hp.out;rw[show num g 0=0 from rfl,Nat.zero_mul,Nat.add_zero,Nat.sub_zero] at hI
      exact⟨by omega,hI.out⟩)
     clear hI;rw[show((0:Nat):Int) - 1= -1 from rfl];go_wp2_with fail;go_meet
     case rel=>exact⟨n,by rw[hfin.out.1],rfl,Lh hfin.out.2,hnk,by rw[←hfin.out.1];exact hD,hb⟩
    ·obtain⟨m,rfl⟩: ∃m,q=m+1:=⟨q - 1,by omega⟩;have hp':=hp.out;obtain⟨v,rfl⟩: ∃v,p=v+1:=⟨p - 1,by omega⟩;have hv:v=m+dw:=by omega
     have hvb:v≤870:=by omega
     have c2:=hD.out.cell m (by omega);rw[qoz g T W _ m (by omega)] at c2;have f2:=hD.out.fz v;have f3:=hD.out.fz 803;have c3:=hD.out.tr;obtain⟨x1,x2⟩:=hg m (by omega);obtain⟨x,hx⟩: ∃x,g m=x+48:=⟨g m - 48,by omega⟩;have hx9:x≤9:=by omega
     rw[hx,Int.natCast_add] at c2;obtain⟨y,hy⟩: ∃y,y=x*2^k:=⟨_,rfl⟩;have hk60:2^k≤1152921504606846976:=Nat.pow_le_pow_right (n:=2) (by decide) hk2;have hyb:y≤10376293541461622784:=by rw[hy];exact Nat.mul_le_mul hx9 hk60
     have hnb:n<1152921504606846976:=Nat.lt_of_lt_of_le hnk.out hk60
     have hy1:IntKind.u64.wrap ((x:Int)*2^k)=(y:Int):=by
      have e:(x:Int)*2^k=(y:Int):=by rw[hy,Int.natCast_mul,Int.natCast_pow];rfl
      rw[e,qbA _ (by omega) (by omega)]
     obtain⟨N,hN⟩: ∃N,N=n+y:=⟨_,rfl⟩;have hN1:IntKind.u64.wrap ((n:Int)+(y:Int))=(N:Int):=by rw[qbA _ (by omega) (by omega)];omega
     obtain⟨Q,hQ⟩: ∃Q,Q=N/10:=⟨_,rfl⟩
     have hQ1:IntKind.u64.wrap ((N:Int)/10)=(Q:Int):=by
      rw[qbA _ (by omega) (by omega)];omega
     have hQ2:IntKind.u64.wrap (10*(Q:Int))=((10*Q:Nat):Int):=by rw[qbA _ (by omega) (by omega)];omega
     obtain⟨R,hR⟩: ∃R,R=N%10:=⟨_,rfl⟩;have hR1:IntKind.u64.wrap ((N:Int) - 10*(Q:Int))=(R:Int):=by rw[qbA _ (by omega) (by omega)];omega
     have hR2:IntKind.u64.wrap ((R:Int)+48)=(R:Int)+48:=qbA _ (by omega) (by omega);have hR3:((R:Int)+48)%256=((48+R:Nat):Int):=by omega
     have hR9:R≤9:=by omega
     have hst:=qlQ g T (2^k) k m (nd - (m+1)) n hI.out rfl;rw[hx,Nat.add_sub_cancel,←hy,←hN,←hQ,←hR,show nd - (m+1)+1=nd - m by omega] at hst
     have hQk:Q<2^k:=by
      have:N<10*2^k:=by rw[hN,hy];have:=Nat.mul_le_mul_right (2^k) hx9;have:=hnk.out;omega
      omega
     have hjW:W - 1 - v=nd - (m+1):=by rw[hWd.out];omega
     have hlb:Hid (lb T W v=48+R):=Lh (by unfold lb;rw[hjW,←hst.1]);replace hst:=Lh hst;replace hQk:=Lh hQk;have e1:((m+1:Nat):Int) - 1=(m:Int):=by omega
     rw[e1];replace hjW:=Lh hjW;clear hI hN hQ hR hx hy x1 x2 hp' hyb hk60 hnb
     by_cases h8:v<800
     ·have t1:decide ((v:Int)<800)=true:=dT (by omega);have t1':decide (v<800)=true:=dT h8;have c4:=hD.out.cell v h8;have hv':=Lh hv;clear hv
      have hD2: ∀z:Int,z=((48+R:Nat):Int)→Hid (qaK (wr.setCell ⟨D,v,none⟩ (.int .u8 z)) D (wl g T W v) nd dp ng (tr||lt8 T W (nd - m))):=fun z hz=>Lh (by
       subst hz;have h:=hD.out.setD v (48+R) h8;rw[←hlb.out] at h⊢
       have e:lt8 T W (nd - m)=lt8 T W (nd - (m+1)):=by
        have:=hWd.out;have:=hv'.out;rw[show nd - m=(nd - (m+1))+1 by omega];exact qob T W _ (by omega)
       rw[e]
       exact h.congr fun i _=>qjl g T W v (by have:=hWd.out;have:=hv'.out;omega) i)
      go_wp2_with fail;go_roundg (gk - 1)
      case measure=>omega
      case rel=>exact⟨m,v,Q,by omega,by omega,by go_num,by go_num,hv',by go_num,Lh hst.out.2,hQk,hD2 _ (by omega),Lh (hb.out.setCell hB _)⟩
     ·have t1:decide ((v:Int)<800)=false:=dF (by omega);have t1':decide (v<800)=false:=dF h8;have hv':=Lh hv;clear hv
      have e9:lt8 T W (nd - m)=(lt8 T W (nd - (m+1))||decide (R≠0)):=by
       have:=hWd.out;have:=hv'.out;rw[show nd - m=(nd - (m+1))+1 by omega,qpO T W _ (by omega),hst.out.1]
      by_cases hR0:R=0
      ·subst hR0;have r1:(((0:Nat):Int)==0)=true:=rfl;rw[dF (fun h=>h rfl),Bool.or_false] at e9
       have hD2:Hid (qaK wr D (wl g T W v) nd dp ng (tr||lt8 T W (nd - m))):=Lh (by
        rw[e9];exact hD.out.congr fun i hi=>qn2 g T W v i (by omega) hi)
       clear e9;go_wp2_with fail;go_roundg (gk - 1)
       case measure=>omega
       case rel=>exact⟨m,v,Q,by omega,by omega,by go_num,by go_num,hv',by go_num,Lh hst.out.2,hQk,hD2,hb⟩
      ·have r1:((R:Int)==0)=false:=by rw[beq_eq_false_iff_ne];omega
       rw[dT hR0,Bool.or_true] at e9
       have hD2:Hid (qaK (wr.setCell ⟨D,803,none⟩ (.bool true)) D (wl g T W v) nd dp ng (tr||lt8 T W (nd - m))):=Lh (by
        rw[e9,Bool.or_true];exact(hD.out.setT true).congr fun i hi=>qn2 g T W v i (by omega) hi)
       clear e9;go_wp2_with fail;go_roundg (gk - 1)
       case measure=>omega
       case rel=>exact⟨m,v,Q,by omega,by omega,by go_num,by go_num,hv',by go_num,Lh hst.out.2,hQk,hD2,Lh (hb.out.setCell hB _)⟩
  case rest=>
   obtain⟨n,rfl,rfl,hI,hnk,hD,hb⟩:=hcut;clear hD1 hb1;go_upto_block 2 with (fail)
   go_cut [6,7] (fun s6 s7 wx=>Hid (qaK wx D (wl g T W 0) nd dp ng (tr||lt8 T W W))∧Hid (Below B w wx))
   case first=>
    go_wp2_with fail;go_loopg [6,7] (W+1) (fun gk s6 s7 wx=> ∃p n:Nat,p<gk∧Hid (p≤dw)∧s6= .int .i64 (p:Int)∧s7= .int .u64 (n:Int)∧Hid (n=T/10^(W - p))∧Hid (n<2^k)∧Hid (qaK wx D (wl g T W p) nd dp ng (tr||lt8 T W (W - p)))∧Hid (Below B w wx))
    case atStart=>exact⟨dw,n,by have:=hWd.out;omega,Lh (Nat.le_refl _),rfl,rfl,Lh (by rw[hI.out,hWd.out,Nat.add_sub_cancel]),Lh hnk,by rw[hWd.out,Nat.add_sub_cancel,←hWd.out];exact hD,hb⟩
    case round=>
     clear hI hnk hD hb;obtain⟨p,n,hqg,hpd,rfl,rfl,hI,hnk,hD,hb⟩:=hrel
     by_cases hn0:n=0
     ·subst hn0
      have hp0:p=0:=by
       have h1:=hI.out;have h2:=hW.out.1;rcases Nat.eq_zero_or_pos p with h|h
       ·exact h
       ·have:0<T/10^(W - p):=Nat.div_pos (Nat.le_trans (Nat.pow_le_pow_right (by decide) (by omega)) h2) (p10 _);omega
      subst hp0;rw[Nat.sub_zero] at hD;have r1:decide ((0:Int)<((0:Nat):Int))=false:=rfl;clear hI;go_wp2_with fail;go_meet
      case rel=>exact⟨hD,hb⟩
     ·have hp0:p≠0:=by
       intro h;have h1:=hI.out;rw[h,Nat.sub_zero,Nat.div_eq_of_lt hW.out.2] at h1;exact hn0 h1
      obtain⟨v,rfl⟩: ∃v,p=v+1:=⟨p - 1,by omega⟩;have hvb:v≤60:=by have:=hpd.out;omega
      have hk60:2^k≤1152921504606846976:=Nat.pow_le_pow_right (n:=2) (by decide) hk2;have hnb:n<1152921504606846976:=Nat.lt_of_lt_of_le hnk.out hk60;have f2:=hD.out.fz v;have c4:=hD.out.cell v (by omega);obtain⟨Q,hQ⟩: ∃Q,Q=n/10:=⟨_,rfl⟩
      have hQ1:IntKind.u64.wrap ((n:Int)/10)=(Q:Int):=by
       rw[qbA _ (by omega) (by omega)];omega
      obtain⟨R,hR⟩: ∃R,R=n%10:=⟨_,rfl⟩;have hQ2:IntKind.u64.wrap (10*(Q:Int))=((10*Q:Nat):Int):=by rw[qbA _ (by omega) (by omega)];omega
      have hR1:IntKind.u64.wrap ((n:Int) - 10*(Q:Int))=(R:Int):=by rw[qbA _ (by omega) (by omega)];omega
      have hR2:IntKind.u64.wrap ((R:Int)+48)=(R:Int)+48:=qbA _ (by omega) (by omega);have hR3:((R:Int)+48)%256=((48+R:Nat):Int):=by omega
      have hR9:R≤9:=by omega
      have hp1:W - (v+1)+1=W - v:=by have:=hWd.out;have:=hpd.out;omega
      have hst:Q=T/10^(W - v)∧lb T W v=48+R:=by
       constructor
       ·rw[hQ,hI.out,Nat.div_div_eq_div_mul,←Nat.pow_succ,←hp1]
       ·unfold lb;rw[hR,hI.out,show W - 1 - v=W - (v+1) by omega]
      have hQk:Hid (Q<2^k):=Lh (by have:=hnk.out;omega)
      have hD2: ∀z:Int,z=((48+R:Nat):Int)→Hid (qaK (wr.setCell ⟨D,v,none⟩ (.int .u8 z)) D (wl g T W v) nd dp ng (tr||lt8 T W (W - v))):=fun z hz=>Lh (by
       subst hz;have h:=hD.out.setD v (48+R) (by omega);rw[←hst.2] at h⊢
       have e:lt8 T W (W - v)=lt8 T W (W - (v+1)):=by
        rw[←hp1];exact qob T W _ (by have:=hWd.out;have:=hpd.out;omega)
       rw[e]
       exact h.congr fun i _=>qjl g T W v (by have:=hWd.out;have:=hpd.out;omega) i)
      have hvd:Hid (v≤dw):=Lh (by have:=hpd.out;omega);replace hst:=Lh hst;have r1:decide ((0:Int)<(n:Int))=true:=dT (by omega);have r1':decide (0<n)=true:=dT (by omega);have t1:decide ((v:Int)<800)=true:=dT (by omega);have t1':decide (v<800)=true:=dT (by omega);clear hI hQ hR hk60 hnb hp1;go_wp2_with fail;go_roundg (gk - 1)
      case measure=>omega
      case rel=>exact⟨v,Q,by omega,hvd,by go_num,by go_num,Lh hst.out.1,hQk,hD2 _ (by omega),Lh (hb.out.setCell hB _)⟩
   case rest=>
    obtain⟨hD,hb⟩:=hcut;clear hI hnk;have c1:=hD.out.nd;have c2:=hD.out.dp;have f1:=hD.out.fz 800;have f2:=hD.out.fz 801
    have hfin: ∀(w':World),Below B w w'→(∃n:Nat,n≤min W 800∧(∀i,n≤i→i<min W 800→wl g T W 0 i=48)∧(n=0∨wl g T W 0 (n - 1)≠48)∧qaK w' D (wl g T W 0) n (if n=0 then 0 else dp+dw) ng (tr||lt8 T W W))→(∃(dw n:Nat) (q:Nat→Nat),dw≤61∧10^(nd+dw - 1)≤num g nd*2^k∧num g nd*2^k<10^(nd+dw)∧(∀i,i<min (nd+dw) 800→q i=lb (num g nd*2^k) (nd+dw) i)∧n≤min (nd+dw) 800∧(∀i,n≤i→i<min (nd+dw) 800→q i=48)∧(n=0∨q (n - 1)≠48)∧qaK w' D q n (if n=0 then 0 else dp+dw) ng (tr||lt8 (num g nd*2^k) (nd+dw) (nd+dw)))∧Below B w w':=by
     intro w' h1 ⟨n,h2,h3,h4,h5⟩;rw[←hT.out];refine⟨⟨dw,n,wl g T W 0,hdw20,?_⟩,h1⟩;rw[←hWd.out];exact⟨hW.out.1,hW.out.2,fun i hi=>by unfold wl;rw[if_pos (by omega)],h2,h3,h4,h5⟩
    replace hfin:=Lh hfin;have hWI:(nd:Int)+(dw:Int)=(W:Int):=by have:=hWd.out;omega
    have hWb:W≤861:=by have:=hWd.out;omega
    by_cases h8:800≤W
    ·have t1:decide ((800:Int)≤(W:Int))=true:=dT (by omega);have t1':decide (800≤W)=true:=dT h8;have hD2:=Lh (((hD.out.setN (W:Int)).setN 800).setP (dp+dw));have hb2:=Lh (((hb.out.setCell (p:=⟨D,800,none⟩) hB (.int .i64 (W:Int))).setCell (p:=⟨D,800,none⟩) hB (.int .i64 800)).setCell (p:=⟨D,801,none⟩) hB (.int .i64 (dp+dw)));go_wp2_with fail;refine(qdM B D _ 800 _ _ _ _ hD2.out (Nat.le_refl _) hB).mono ?_;rintro e w' ⟨rfl,h,hb3⟩;have hfin2:=Lh (hfin.out w' (hb2.out.trans hb3) (by rw[Nat.min_eq_right h8];exact h));clear h hb3 hfin hD2 hb2;go_wp2_with fail;go_end0;exact⟨rfl,hfin2.out⟩
    ·have t1:decide ((800:Int)≤(W:Int))=false:=dF (by omega);have t1':decide (800≤W)=false:=dF h8;have hD2:=Lh ((hD.out.setN (W:Int)).setP (dp+dw));have hb2:=Lh ((hb.out.setCell (p:=⟨D,800,none⟩) hB (.int .i64 (W:Int))).setCell (p:=⟨D,801,none⟩) hB (.int .i64 (dp+dw)));go_wp2_with fail;refine(qdM B D _ W _ _ _ _ hD2.out (by omega) hB).mono ?_;rintro e w' ⟨rfl,h,hb3⟩;have hfin2:=Lh (hfin.out w' (hb2.out.trans hb3) (by rw[Nat.min_eq_left (by omega)];exact h));clear h hb3 hfin hD2 hb2;go_wp2_with fail;go_end0;exact⟨rfl,hfin2.out⟩
structure qbC (w:World) (D X E:Nat) (ng tr:Bool):Prop where
 ex: ∃(g:Nat→Nat) (nd:Nat),qaK w D g nd ((E:Int) - 2000) ng tr∧1≤nd∧nd≤800∧qdm g nd∧48<g 0∧nd≤E∧X=dec g nd E
structure qqE (w:World) (D X E:Nat) (ng tr:Bool):Prop where
 ex: ∃(g:Nat→Nat) (nd:Nat),qaK w D g nd ((E:Int) - 2000) ng tr∧1≤nd∧nd≤800∧qdm g nd∧48<g 0∧nd≤E∧X=dec g nd E∧g (nd - 1)≠48
theorem qqE.toN {w:World} {D X E:Nat} {ng tr:Bool} (h:qqE w D X E ng tr):qbC w D X E ng tr:=by
 obtain⟨g,nd,h1,h2,h3,h4,h5,h6,h7,_⟩:=h.ex;exact⟨g,nd,h1,h2,h3,h4,h5,h6,h7⟩
theorem qbC.oth {w w':World} {D X E:Nat} {ng tr:Bool} (h:qbC w D X E ng tr) (e:w'.heap[D]?=w.heap[D]?):qbC w' D X E ng tr:=by
 obtain⟨g,nd,h,h2⟩:=h.ex;exact⟨g,nd,h.oth e,h2⟩
theorem qbC.bd {w:World} {D X E:Nat} {ng tr:Bool} (h:qbC w D X E ng tr):10^(E - 1)≤X∧X<10^E:=by
 obtain⟨g,nd,_,h1,_,h3,h4,h6,rfl⟩:=h.ex;unfold dec;constructor
 ·rw[show E - 1=(nd - 1)+(E - nd) by omega,Nat.pow_add];exact Nat.mul_le_mul_right _ (qeb h1 h4)
 ·rw[qqa h6];exact Nat.mul_lt_mul_of_pos_right (qet nd h3) (p10 _)
theorem qm2 (B D X E k:Nat) (ng tr:Bool) (w:World) (h:qbC w D X E ng tr) (hE:E≤2500) (hk:1≤k) (hk2:k≤60) (hL:LcP w) (hB:B≤D):
 Calls Tryz.prog 303 #[.pointer (some ⟨D,0,none⟩),.int .u64 k] w fun e w'=>e= .returned (.tuple #[])∧(∃X' E' tr',qqE w' D X' E' ng tr'∧Cut (X*2^k) X' tr tr')∧Below B w w':=by
 obtain⟨g,nd,h1,h2,h3,h4,h5,h7,rfl⟩:=h.ex;refine(qnt B D g nd k _ ng tr w h1 h2 h3 h4 h5 hk hk2 hL hB (by omega) (by omega)).mono ?_;rintro e w' ⟨rfl,⟨dw,n,q,a1,a2,a3,a4,a5,a6,a7,a8⟩,hb⟩;refine⟨rfl,?_,hb⟩
 have q0:48<q 0:=by
  rw[a4 0 (by omega)];unfold lb;rw[Nat.sub_zero];have b1:1≤num g nd*2^k/10^(nd+dw - 1):=(Nat.le_div_iff_mul_le (p10 _)).2 (by omega)
  have b2:num g nd*2^k/10^(nd+dw - 1)<10:=by
   have e:10^(nd+dw)=10^(nd+dw - 1)*10:=by rw[←Nat.pow_succ];congr 1;omega
   rw[Nat.div_lt_iff_lt_mul (p10 _)];omega
  omega
 have n0:n≠0:=fun e=>by have:=a6 0 (by omega) (by omega);omega
 rw[if_neg n0] at a8;have hc:=qps g q nd E k (nd+dw) tr a2 a3 (by omega) (by omega) h7 a4;rw[show E+(nd+dw) - nd=E+dw by omega,qh2 q n (min (nd+dw) 800) (E+dw) a5 (by omega) a6] at hc;refine⟨_,E+dw,_,⟨q,n,?_,by omega,by omega,?_,q0,by omega,rfl,a7.resolve_left n0⟩,hc⟩
 ·rw[show((E+dw:Nat):Int) - 2000=(E:Int) - 2000+(dw:Int) by omega];exact a8
 ·intro i hi;rw[a4 i (by omega)];exact qoG _ _ (i+1) i (by omega)
end Go.Proofs.YtdeimnnpcfncpaaGreatDoor
