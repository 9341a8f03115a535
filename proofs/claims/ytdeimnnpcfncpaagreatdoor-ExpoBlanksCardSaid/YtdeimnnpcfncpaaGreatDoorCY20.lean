/- Parts of the proof: HE. -/
import Derived.Test.YtdeimnnpcfncpaaGreatDoorCY19
set_option linter.unusedVariables false
set_option linter.unusedSimpArgs false
set_option maxRecDepth 100000
set_option maxHeartbeats 64000000
namespace Go.Proofs.YtdeimnnpcfncpaaGreatDoor
open Go Go.RowKit
def wr' (g:Nat→Nat) (nd r k p i:Nat):Nat:=if i<p then qb (ext g nd) r k i else g i
theorem qo9 (g:Nat→Nat) (nd r k i:Nat):wr' g nd r k 0 i=g i:=if_neg (by omega)
theorem qtb (g:Nat→Nat) (nd r k p i:Nat) (h:p≤i):wr' g nd r k p i=g i:=if_neg (by omega)
theorem qjY (g:Nat→Nat) (nd r k p i:Nat):upd (wr' g nd r k p) p (qb (ext g nd) r k p) i=wr' g nd r k (p+1) i:=by
 by_cases e:i=p
 ·subst e;rw[qeA];unfold wr';rw[if_pos (by omega)]
 ·rw[upd_ne _ _ e];unfold wr'
  by_cases c:i<p
  ·rw[if_pos c,if_pos (by omega)]
  ·rw[if_neg c,if_neg (by omega)]
theorem qng (B D:Nat) (g:Nat→Nat) (nd k:Nat) (dp:Int) (ng tr:Bool) (w:World) (h:qaK w D g nd dp ng tr) (hn0:1≤nd) (hn:nd≤800) (hg:qdm g nd) (h0:48<g 0) (hk:1≤k) (hk2:k≤60) (hB:B≤D) (hp1: -100000≤dp) (hp2:dp≤100000):
 Calls Tryz.prog 304 #[.pointer (some ⟨D,0,none⟩),.int .u64 k] w fun e w'=>e= .returned (.tuple #[])∧(∃(r R n:Nat) (q:Nat→Nat),1≤r∧r≤20∧1≤R∧R≤(nd - r)+k+1∧2^k≤num (ext g nd) r∧num (ext g nd) r<10*2^k∧nd≤r+R∧num (ext g nd) (r+R)%(10*2^k)=0∧(∀i,i<min R 800→q i=qb (ext g nd) r k i)∧n≤min R 800∧(∀i,n≤i→i<min R 800→q i=48)∧(n=0∨q (n - 1)≠48)∧qaK w' D q n (if n=0 then 0 else dp - ((r:Int) - 1)) ng (tr||qt (ext g nd) r k R))∧Below B w w':=by
 have c1:=h.nd;have cp:=h.dp;have fp:=h.fz 801;obtain⟨c,hcd⟩: ∃c,c=ext g nd:=⟨_,rfl⟩;have hc9: ∀i,48≤c i∧c i≤57:=fun i=>by rw[hcd];exact qbP hg (i+1) i (by omega)
 have hcz: ∀i,nd≤i→c i=48:=fun i hi=>by rw[hcd];unfold ext;rw[if_neg (by omega)]
 have hcg: ∀i,i<nd→c i=g i:=fun i hi=>by rw[hcd];unfold ext;rw[if_pos hi]
 have hcp: ∀i,1≤i→10^(i - 1)≤num c i:=fun i hi=>qeb hi (by rw[hcg 0 (by omega)];exact h0)
 obtain⟨P,hP⟩: ∃P,P=2^k:=⟨_,rfl⟩;have hP1:2≤P:=by rw[hP];have:=Nat.pow_le_pow_right (n:=2) (by decide) hk;omega
 have hP2:P≤1152921504606846976:=by rw[hP];exact Nat.pow_le_pow_right (n:=2) (by decide) hk2
 have hPI:=Lh (show(2:Int)^k=(P:Int) by rw[hP,Int.natCast_pow];rfl);replace hP:=Lh hP;have H0:=Lh h;replace hcd:=Lh hcd;replace hcz:=Lh hcz;replace hcg:=Lh hcg;replace hcp:=Lh hcp;replace hc9:=Lh hc9;clear h;go_enter Tryz.func304,Tryz.ntmps304;go_upto_block 0 with (fail)
 go_cut [4,6] (fun s4 s6 wx=> ∃r:Nat,s4= .int .i64 (r:Int)∧s6= .int .u64 (num c r:Int)∧P≤num c r∧num c r<10*P∧wx=w)
 case first=>
  go_wp2_with fail;go_loopg [4,6] (nd+1) (fun gk s4 s6 wx=> ∃r n:Nat,nd - r<gk∧r≤nd∧s4= .int .i64 (r:Int)∧s6= .int .u64 (n:Int)∧Hid (n=num c r)∧n<10*P∧wx=w)
  case atStart=>exact⟨0,0,by omega,by omega,rfl,rfl,Lh rfl,by omega,rfl⟩
  case round=>
   obtain⟨r,n,hrg,hrn,rfl,rfl,hN,hn10,rfl⟩:=hrel
   by_cases hnP:P≤n
   ·obtain⟨y,hy⟩: ∃y,y=n/P:=⟨_,rfl⟩;have hy0:1≤y:=by rw[hy];exact Nat.div_pos hnP (by omega)
    have hsh:(n:Int)/2^k=(y:Int):=by rw[hPI.out,hy,Int.natCast_ediv]
    have hsh2:((y:Int)==0)=false:=by rw[beq_eq_false_iff_ne];omega
    replace hy:=Lh hy;have hfin:Hid (P≤num c r∧num c r<10*P):=Lh (by rw[←hN.out];exact⟨hnP,hn10⟩);go_wp2_with fail;go_meet
    case rel=>exact⟨r,rfl,by rw[hN.out],hfin.out.1,hfin.out.2,rfl⟩
   ·have hnP':n<P:=Nat.lt_of_not_le hnP;have hsh:(n:Int)/2^k=0:=by rw[hPI.out,←Int.natCast_ediv,Nat.div_eq_of_lt hnP'];rfl
    have hm10:IntKind.u64.wrap ((n:Int)*10)=(n:Int)*10:=qbA _ (by omega) (by omega)
    by_cases hr:r<nd
    ·have r1:decide ((nd:Int)≤(r:Int))=false:=dF (by omega);have r1':decide (nd≤r)=false:=dF (by omega);have c2:=H0.out.cell r (by omega);obtain⟨x1,x2⟩:=hg r hr;obtain⟨x,hx⟩: ∃x,x=g r:=⟨_,rfl⟩;rw[←hx] at c2 x1 x2
     have hN2:Hid (n*10+x - 48=num c (r+1)):=Lh (by
      show _=10*num c r+(c r - 48)
      rw[hcg.out r hr,←hN.out,←hx];omega)
     obtain⟨z,hz⟩: ∃z,z=n*10+x - 48:=⟨_,rfl⟩;rw[←hz] at hN2;have hs1:IntKind.u64.wrap ((n:Int)*10+(x:Int))=(n:Int)*10+(x:Int):=qbA _ (by omega) (by omega);have hs2:IntKind.u64.wrap ((n:Int)*10+(x:Int) - 48)=(z:Int):=by rw[qbA _ (by omega) (by omega)];omega
     have hz10:z<10*P:=by omega
     replace hz:=Lh hz;replace hx:=Lh hx;go_wp2_with fail;go_roundg (gk - 1)
     case measure=>omega
     case rel=>exact⟨r+1,z,by omega,by omega,by go_num,by go_num,hN2,hz10,rfl⟩
    ·obtain rfl:r=nd:=by omega
     have r1:decide ((r:Int)≤(r:Int))=true:=dT (by omega);have r1':decide (r≤r)=true:=dT (by omega)
     have hn1:1≤n:=by
      rw[hN.out];exact Nat.le_trans (p10 _) (hcp.out r hn0)
     have n1:((n:Int)==0)=false:=by rw[beq_eq_false_iff_ne];omega
     go_wp2_with fail;clear hcg hg hrg hrn hr r1 r1' c1;go_loopg [4,6] (10*P+1) (fun gk s4 s6 wx=> ∃r' n:Nat,10*P - n<gk∧Hid (r≤r')∧r'≤900∧s4= .int .i64 (r':Int)∧s6= .int .u64 (n:Int)∧Hid (n=num c r')∧1≤n∧n<10*P∧Hid (10^(r' - r)≤n)∧wx=wr)
     case atStart=>exact⟨r,n,by omega,Lh (Nat.le_refl _),by omega,rfl,rfl,hN,hn1,hn10,Lh (by rw[Nat.sub_self];exact hn1),rfl⟩
     case round=>
      clear hN hn10 hnP hnP' hsh hm10 hn1 n1;obtain⟨r',n,hng,hrr,hr9,rfl,rfl,hN,hn1,hn10,hpw,rfl⟩:=hrel
      by_cases hnP:P≤n
      ·obtain⟨y,hy⟩: ∃y,y=n/P:=⟨_,rfl⟩;have hy0:1≤y:=by rw[hy];exact Nat.div_pos hnP (by omega)
       have hsh:(n:Int)/2^k=(y:Int):=by rw[hPI.out,hy,Int.natCast_ediv]
       have hsh2:((y:Int)==0)=false:=by rw[beq_eq_false_iff_ne];omega
       replace hy:=Lh hy;have hfin:Hid (P≤num c r'∧num c r'<10*P):=Lh (by rw[←hN.out];exact⟨hnP,hn10⟩);go_wp2_with fail;go_meet
       case rel=>exact⟨r',rfl,by rw[hN.out],hfin.out.1,hfin.out.2,rfl⟩
      ·have hnP':n<P:=Nat.lt_of_not_le hnP;have hsh:(n:Int)/2^k=0:=by rw[hPI.out,←Int.natCast_ediv,Nat.div_eq_of_lt hnP'];rfl
       have hm10:IntKind.u64.wrap ((n:Int)*10)=((n*10:Nat):Int):=by rw[qbA _ (by omega) (by omega)];omega
       have hN2:Hid (n*10=num c (r'+1)):=Lh (by
        show _=10*num c r'+(c r' - 48)
        rw[hcz.out r' hrr.out,←hN.out];omega)
       have hpw2:Hid (10^(r'+1 - r)≤n*10):=Lh (by
        rw[show r'+1 - r=(r' - r)+1 by have:=hrr.out;omega,Nat.pow_succ]
        exact Nat.mul_le_mul_right _ hpw.out)
       have hb20:r'≤820:=by
        apply Nat.le_of_not_lt;intro hlt;have h1:10^20≤10^(r' - r):=Nat.pow_le_pow_right (by decide) (by omega);have h2:=hpw.out;omega
       have hrr2:Hid (r≤r'+1):=Lh (by have:=hrr.out;omega);go_wp2_with fail;go_roundg (gk - 1)
       case measure=>omega
       case rel=>exact⟨r'+1,n*10,by omega,hrr2,by omega,by go_num,by go_num,hN2,by omega,by omega,hpw2,rfl⟩
 case rest=>
  obtain⟨r,rfl,rfl,hPr,hPr2,hwc⟩:=hcut;have hwc':=hwc.symm;clear hwc;subst hwc';obtain⟨N,hNd⟩: ∃N,N=num c r:=⟨_,rfl⟩;rw[←hNd] at hPr hPr2⊢
  have hr1:1≤r:=by
   rcases Nat.eq_zero_or_pos r with h|h
   ·rw[h,show num c 0=0 from rfl] at hNd;omega
   ·exact h
  have hr20:r≤20:=by
   apply Nat.le_of_not_lt;intro hlt;have h1:=hcp.out r hr1;have h2:10^20≤10^(r - 1):=Nat.pow_le_pow_right (by decide) (by omega);omega
  obtain⟨M,hM⟩: ∃M,M=P - 1:=⟨_,rfl⟩;have hm1:IntKind.u64.wrap (2^k)=(P:Int):=by rw[hPI.out];exact qbA _ (by omega) (by omega)
  have hm2:IntKind.u64.wrap ((P:Int) - 1)=(M:Int):=by rw[qbA _ (by omega) (by omega)];omega
  have hMI: ∀x:Nat,x<18446744073709551616→bits .and .u64 (x:Int) (M:Int)=((x%P:Nat):Int):=fun x hx=>by
   rw[u64_and_nat x M hx (by omega),hM,hP.out,Nat.and_two_pow_sub_one_eq_mod]
  have hdp1:(r:Int) - 1≤20:=by omega
  have hD1:=Lh (H0.out.setP (dp - ((r:Int) - 1)));have hb1:=Lh ((Below.refl B w).setCell (p:=⟨D,801,none⟩) hB (.int .i64 (dp - ((r:Int) - 1))));obtain⟨dq,hdq⟩: ∃dq,dq=dp - ((r:Int) - 1):=⟨_,rfl⟩;replace hMI:=Lh hMI;replace hM:=Lh hM;obtain⟨i0,hi0⟩: ∃i0,i0=nd - r:=⟨_,rfl⟩;have hi0':i0≤800:=by omega
  replace hi0:=Lh hi0;go_upto_block 4 with (fail)
  rw[←hdq] at hD1 hb1⊢;obtain⟨wq,hwq⟩: ∃wq,wq=w.setCell ⟨D,801,none⟩ (.int .i64 dq):=⟨_,rfl⟩;rw[←hwq] at hD1 hb1⊢;clear c1 cp fp hwq hm1 hm2 H0;go_cut [5,6] (fun s5 s6 wx=>s5= .int .i64 (i0:Int)∧s6= .int .u64 ((num c (r+i0)%(10*P):Nat):Int)∧Hid (qaK wx D (wr' g nd r k i0) nd dq ng tr)∧Hid (Below B w wx))
  case first=>
   go_wp2_with fail;go_loopg [4,5,6] (i0+1) (fun gk s4 s5 s6 wx=> ∃t i n:Nat,i0 - i<gk∧i≤i0∧s4= .int .i64 (t:Int)∧Hid (t=r+i)∧s5= .int .i64 (i:Int)∧s6= .int .u64 (n:Int)∧Hid (n=num c (r+i)%(10*P))∧Hid (qaK wx D (wr' g nd r k i) nd dq ng tr)∧Hid (Below B w wx))
   case atStart=>exact⟨r,0,N,by omega,by omega,rfl,Lh rfl,rfl,rfl,Lh (by rw[Nat.add_zero,←hNd,Nat.mod_eq_of_lt hPr2]),Lh (hD1.out.congr fun i _=>(qo9 g nd r k i).symm),hb1⟩
   case round=>
    clear hNd hPr hPr2 hD1 hb1 hdq;obtain⟨t,i,n,hig,hii,rfl,ht,rfl,rfl,hN,hD,hb⟩:=hrel;have c1:=hD.out.nd;have ht':=ht.out;have hi0o:=hi0.out
    by_cases hr:t<nd
    ·have r1:decide ((t:Int)<(nd:Int))=true:=dT (by omega);have r1':decide (t<nd)=true:=dT hr;have c2:=hD.out.cell t (by omega);rw[qtb g nd r k i t (by omega)] at c2;have f2:=hD.out.fz i;have c4:=hD.out.cell i (by omega);obtain⟨x1,x2⟩:=hg t hr;obtain⟨x,hx⟩: ∃x,x=g t:=⟨_,rfl⟩;rw[←hx] at c2 x1 x2;have hn10:n<10*P:=by rw[hN.out];exact Nat.mod_lt _ (by omega)
     obtain⟨y,hy⟩: ∃y,y=n/P:=⟨_,rfl⟩;obtain⟨m,hm⟩: ∃m,m=n%P:=⟨_,rfl⟩;have hy10:y<10:=by rw[hy];exact(Nat.div_lt_iff_lt_mul (by omega)).2 hn10
     have hmP:m<P:=by rw[hm];exact Nat.mod_lt _ (by omega)
     have hsh:(n:Int)/2^k=(y:Int):=by rw[hPI.out,hy,Int.natCast_ediv]
     have hand:bits .and .u64 (n:Int) (M:Int)=(m:Int):=by rw[hMI.out n (by omega),hm]
     have hw1:IntKind.u64.wrap ((y:Int)+48)=(y:Int)+48:=qbA _ (by omega) (by omega);have hw2:((y:Int)+48)%256=((48+y:Nat):Int):=by omega
     have hw3:IntKind.u64.wrap ((m:Int)*10)=(m:Int)*10:=qbA _ (by omega) (by omega);have hw4:IntKind.u64.wrap ((m:Int)*10+(x:Int))=(m:Int)*10+(x:Int):=qbA _ (by omega) (by omega);obtain⟨z,hz⟩: ∃z,z=10*m+(x - 48):=⟨_,rfl⟩;have hw5:IntKind.u64.wrap ((m:Int)*10+(x:Int) - 48)=(z:Int):=by rw[qbA _ (by omega) (by omega)];omega
     have hc9':c (r+i) - 48<10:=by have:=hc9.out (r+i);omega
     have hst:Hid (z=num c (r+(i+1))%(10*P)):=Lh (by
      have h:=qhU c r k i hc9';rw[←hP.out] at h
      rw[h,←hN.out,←hm,hz,←ht',hcg.out t hr,hx])
     have hqb:Hid (qb (ext g nd) r k i=48+y):=Lh (by
      unfold qb qd
      rw[←hcd.out,←hP.out,←hN.out,hy])
     have hD2: ∀z:Int,z=((48+y:Nat):Int)→Hid (qaK (wr.setCell ⟨D,i,none⟩ (.int .u8 z)) D (wr' g nd r k (i+1)) nd dq ng tr):=fun z hz=>Lh (by
      subst hz;have h:=hD.out.setD i (48+y) (by omega);rw[←hqb.out] at h⊢
      exact h.congr fun j _=>qjY g nd r k i j)
     have hti:i+1≤i0:=by omega
     have htb:t≤800:=by omega
     have ht2:Hid (t+1=r+(i+1)):=Lh (by omega);clear hi0o ht' hx hy hm hz hc9' hN;go_wp2_with fail;go_roundg (gk - 1)
     case measure=>omega
     case rel=>exact⟨t+1,i+1,z,by omega,hti,by go_num,ht2,by go_num,by go_num,hst,hD2 _ (by omega),Lh (hb.out.setCell hB _)⟩
    ·have r1:decide ((t:Int)<(nd:Int))=false:=dF (by omega);have r1':decide (t<nd)=false:=dF hr;have hie:i=i0:=by omega
     subst hie;clear hi0o ht';go_wp2_with fail;go_meet
     case rel=>exact⟨rfl,by rw[hN.out],hD,hb⟩
  case rest=>
   obtain⟨rfl,rfl,hD,hb⟩:=hcut;clear hD1 hb1;obtain⟨n0,hn00⟩: ∃n,n=num c (r+i0)%(10*P):=⟨_,rfl⟩;rw[←hn00];replace hn00:=Lh hn00;go_upto_block 6 with (fail)
   go_cut [5,6] (fun s5 s6 wx=> ∃R v:Nat,s5= .int .i64 (v:Int)∧v≤800∧Hid (v=min R 800)∧Hid (num c (r+R)%(10*P)=0)∧Hid (i0≤R∧R≤i0+k+1)∧Hid (qaK wx D (wr' g nd r k v) nd dq ng (tr||qt c r k R))∧Hid (Below B w wx))
   case first=>
    go_wp2_with fail;go_loopg [5,6] (i0+k+3) (fun gk s5 s6 wx=> ∃i v n:Nat,i0+k+2 - i<gk∧i0≤i∧s5= .int .i64 (v:Int)∧Hid (v=min i 800)∧s6= .int .u64 (n:Int)∧Hid (n=num c (r+i)%(10*P))∧i≤i0+k+1∧Hid (qaK wx D (wr' g nd r k v) nd dq ng (tr||qt c r k i))∧Hid (Below B w wx))
    case atStart=>exact⟨i0,i0,n0,by omega,by omega,rfl,Lh (by omega),rfl,hn00,by omega,by rw[qlW c r k i0 hi0',Bool.or_false];exact hD,hb⟩
    case round=>
     clear hD hb hn00;obtain⟨i,v,n,hig,hii,rfl,hv,rfl,hN,hik,hD,hb⟩:=hrel;have hv':=hv.out;have hv8:v≤800:=by omega
     by_cases hn:n=0
     ·subst hn;have r1:decide ((0:Int)<((0:Nat):Int))=false:=rfl;have hR:Hid (i0≤i∧i≤i0+k+1):=Lh ⟨hii,hik⟩;clear hv';go_wp2_with fail;go_meet
      case rel=>exact⟨i,v,rfl,hv8,hv,Lh hN.out.symm,hR,hD,hb⟩
     ·have hik2:i≤i0+k:=by
       apply Nat.le_of_not_lt;intro hlt;have h:=qo2 c r k nd hcz.out i0 (by have:=hi0.out;omega) (i - i0) (by omega);rw[show i0+(i - i0)=i by omega,←hP.out,←hN.out] at h;exact hn h
      have r1:decide ((0:Int)<(n:Int))=true:=dT (by omega);have r1':decide (0<n)=true:=dT (by omega);have hn10:n<10*P:=by rw[hN.out];exact Nat.mod_lt _ (by omega)
      obtain⟨y,hy⟩: ∃y,y=n/P:=⟨_,rfl⟩;obtain⟨m,hm⟩: ∃m,m=n%P:=⟨_,rfl⟩;have hy10:y<10:=by rw[hy];exact(Nat.div_lt_iff_lt_mul (by omega)).2 hn10
      have hmP:m<P:=by rw[hm];exact Nat.mod_lt _ (by omega)
      have hsh:(n:Int)/2^k=(y:Int):=by rw[hPI.out,hy,Int.natCast_ediv]
      have hand:bits .and .u64 (n:Int) (M:Int)=(m:Int):=by rw[hMI.out n (by omega),hm]
      have hw1:IntKind.u64.wrap ((y:Int)+48)=(y:Int)+48:=qbA _ (by omega) (by omega);have hw2:((y:Int)+48)%256=((48+y:Nat):Int):=by omega
      obtain⟨z,hz⟩: ∃z,z=10*m:=⟨_,rfl⟩;have hw3:IntKind.u64.wrap ((m:Int)*10)=(z:Int):=by rw[qbA _ (by omega) (by omega)];omega
      have hcz':c (r+i)=48:=hcz.out (r+i) (by have:=hi0.out;omega)
      have hst:Hid (z=num c (r+(i+1))%(10*P)):=Lh (by
       have h:=qhU c r k i (by rw[hcz'];decide);rw[←hP.out,hcz',←hN.out,←hm] at h
       rw[h,hz];omega)
      have hqd:qd c r k i=y:=by
       unfold qd;rw[←hP.out,←hN.out,hy]
      have hqb:Hid (qb (ext g nd) r k i=48+y):=Lh (by
       rw[←hcd.out];unfold qb;rw[hqd])
      have hb2:i≤870:=by omega
      by_cases h8:v<800
      ·have t1:decide ((v:Int)<800)=true:=dT (by omega);have t1':decide (v<800)=true:=dT h8;have hvi:v=i:=by omega
       subst hvi;have f2:=hD.out.fz v;have c4:=hD.out.cell v h8
       have hD2: ∀z:Int,z=((48+y:Nat):Int)→Hid (qaK (wr.setCell ⟨D,v,none⟩ (.int .u8 z)) D (wr' g nd r k (v+1)) nd dq ng (tr||qt c r k (v+1))):=fun z hz=>Lh (by
        subst hz;have h:=hD.out.setD v (48+y) h8;rw[←hqb.out] at h⊢;rw[qlW c r k (v+1) (by omega),←qlW c r k v (by omega)]
        exact h.congr fun j _=>qjY g nd r k v j)
       have hv2:Hid (v+1=min (v+1) 800):=Lh (by omega);clear hv' hy hm hz hcz' hN hqd hv;go_wp2_with fail;go_roundg (gk - 1)
       case measure=>omega
       case rel=>exact⟨v+1,v+1,z,by omega,by omega,by go_num,hv2,by go_num,hst,by omega,hD2 _ (by omega),Lh (hb.out.setCell hB _)⟩
      ·have t1:decide ((v:Int)<800)=false:=dF (by omega);have t1':decide (v<800)=false:=dF h8;have hv9:v=800:=by omega
       subst hv9;have hv2:Hid (800=min (i+1) 800):=Lh (by omega);have f3:=hD.out.fz 803;have c3:=hD.out.tr
       by_cases hy0:y=0
       ·have hD2:Hid (qaK wr D (wr' g nd r k 800) nd dq ng (tr||qt c r k (i+1))):=Lh (by
         rw[qoA c r k i (by omega) (by rw[hqd];exact hy0)];exact hD.out)
        have r2:decide ((0:Int)<(y:Int))=false:=dF (by omega);have r2':decide (0<y)=false:=dF (by omega);clear hv' hy hm hz hcz' hN hqd hv hy0;go_wp2_with fail;go_roundg (gk - 1)
        case measure=>omega
        case rel=>exact⟨i+1,800,z,by omega,by omega,rfl,hv2,by go_num,hst,by omega,hD2,hb⟩
       ·have hD2:Hid (qaK (wr.setCell ⟨D,803,none⟩ (.bool true)) D (wr' g nd r k 800) nd dq ng (tr||qt c r k (i+1))):=Lh (by
         rw[qq6 c r k i (by omega) (by rw[hqd];omega),Bool.or_true];exact hD.out.setT true)
        have r2:decide ((0:Int)<(y:Int))=true:=dT (by omega);have r2':decide (0<y)=true:=dT (by omega);clear hv' hy hm hz hcz' hN hqd hv hy0;go_wp2_with fail;go_roundg (gk - 1)
        case measure=>omega
        case rel=>exact⟨i+1,800,z,by omega,by omega,rfl,hv2,by go_num,hst,by omega,hD2,Lh (hb.out.setCell hB _)⟩
   case rest=>
    obtain⟨R,v,rfl,hv8,hv,hz,hR,hD,hb⟩:=hcut;clear hn00;have c1:=hD.out.nd;have f1:=hD.out.fz 800;have hD2:=Lh (hD.out.setN (v:Int));have hb2:=Lh (hb.out.setCell (p:=⟨D,800,none⟩) hB (.int .i64 (v:Int)));go_wp2_with fail;refine(qdM B D _ v _ _ _ _ hD2.out hv8 hB).mono ?_;rintro e w' ⟨rfl,⟨n,h1,h2,h3,h4⟩,hb3⟩
    have hfin:=Lh (show(∃(r R n:Nat) (q:Nat→Nat),1≤r∧r≤20∧1≤R∧R≤(nd - r)+k+1∧2^k≤num (ext g nd) r∧num (ext g nd) r<10*2^k∧nd≤r+R∧num (ext g nd) (r+R)%(10*2^k)=0∧(∀i,i<min R 800→q i=qb (ext g nd) r k i)∧n≤min R 800∧(∀i,n≤i→i<min R 800→q i=48)∧(n=0∨q (n - 1)≠48)∧qaK w' D q n (if n=0 then 0 else dp - ((r:Int) - 1)) ng (tr||qt (ext g nd) r k R))∧Below B w w' by
     refine⟨⟨r,R,n,wr' g nd r k v,hr1,hr20,?_,?_,?_,?_,?_,?_,?_,?_,?_,h3,?_⟩,hb2.out.trans hb3⟩
     ·rcases Nat.eq_zero_or_pos R with h|h
      ·have h5:=hz.out;rw[h,Nat.add_zero,←hNd,Nat.mod_eq_of_lt hPr2] at h5;omega
      ·exact h
     ·have:=hR.out.2;have:=hi0.out;omega
     ·rw[←hcd.out,←hP.out,←hNd];exact hPr
     ·rw[←hcd.out,←hP.out,←hNd];exact hPr2
     ·have:=hR.out.1;have:=hi0.out;omega
     ·rw[←hcd.out,←hP.out];exact hz.out
     ·intro i hi;rw[←hv.out] at hi;unfold wr';rw[if_pos hi]
     ·rw[←hv.out];exact h1
     ·rw[←hv.out];exact h2
     ·rw[←hcd.out,←hdq];exact h4)
    clear h1 h2 h3 h4 hb3 hD2 hb2 c1 f1;go_wp2_with fail;go_end0;exact⟨rfl,hfin.out⟩
theorem qfo (B D X E k:Nat) (ng tr:Bool) (w:World) (h:qbC w D X E ng tr) (hE0:1600≤E) (hE:E≤2500) (hk:1≤k) (hk2:k≤60) (hB:B≤D):
 Calls Tryz.prog 304 #[.pointer (some ⟨D,0,none⟩),.int .u64 k] w fun e w'=>e= .returned (.tuple #[])∧(∃X' E' tr' Z,qbC w' D X' E' ng tr'∧X=Z*2^k∧Cut Z X' tr tr')∧Below B w w':=by
 obtain⟨g,nd,h1,h2,h3,h4,h5,h7,rfl⟩:=h.ex;refine(qng B D g nd k _ ng tr w h1 h2 h3 h4 h5 hk hk2 hB (by omega) (by omega)).mono ?_;rintro e w' ⟨rfl,⟨r,R,n,q,a1,a2,a3,a4,b1,b2,b3,b4,a5,a6,a7,_,a9⟩,hb⟩;refine⟨rfl,?_,hb⟩
 have q0:48<q 0:=by
  rw[a5 0 (by omega)];unfold qb qd;rw[Nat.add_zero,Nat.mod_eq_of_lt b2];have:=Nat.div_pos b1 (Nat.two_pow_pos k);omega
 have n0:n≠0:=fun e=>by have:=a7 0 (by omega) (by omega);omega
 rw[if_neg n0] at a9;obtain⟨Z,c1,c2⟩:=qoL g q nd E k r R tr h4 b1 b2 b3 b4 (by omega) a3 a5;rw[qh2 q n (min R 800) (E+1 - r) a6 (by omega) a7] at c2;refine⟨_,E+1 - r,_,Z,⟨q,n,?_,by omega,by omega,?_,q0,by omega,rfl⟩,c1,c2⟩
 ·rw[show((E+1 - r:Nat):Int) - 2000=(E:Int) - 2000 - ((r:Int) - 1) by omega];exact a9
 ·intro i hi;rw[a5 i (by omega)];exact qkB _ _ _ (i+1) i (by omega)
end Go.Proofs.YtdeimnnpcfncpaaGreatDoor
