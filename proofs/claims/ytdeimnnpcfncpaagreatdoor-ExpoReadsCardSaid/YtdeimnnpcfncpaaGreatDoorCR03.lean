/- Parts of the proof: F6 F7 F11 F17 F14 F15. -/
import Derived.Laws.FloatArith
import Derived.Test.YtdeimnnpcfncpaaGreatDoorCR02
set_option linter.unusedVariables false
set_option linter.unusedSimpArgs false
set_option maxRecDepth 100000
set_option maxHeartbeats 64000000
section
namespace Go.Proofs.YtdeimnnpcfncpaaGreatDoor
def bl (d:Nat):Nat:=d.log2+1
def pfE (c:Int):Int:=min 1074 (53 - c)
def pfS (c:Int):Int:=61 - c - pfE c
def qce (d i:Nat):Nat:=
 let c:Int:=(bl d:Int)+lp2 ((i:Int) - 348)
 if 64≤pfS c then 0
 else pk (usc (d*2^(64 - bl d)) (thi i) (tlo i) (pfS c).toNat) (1075 - pfE c).toNat
theorem qkp (d:Nat):d<2^bl d:=Nat.lt_log2_self
theorem qt8 (d:Nat) (h:0<d):2^(bl d - 1)≤d:=Nat.log2_self_le (by omega)
theorem qog (d:Nat) (h:d<18446744073709551616):bl d≤64:=by
 by_cases h0:d=0
 ·subst h0;decide
 ·have:=(Nat.log2_lt (n:=d) (k:=64) h0).2 h;unfold bl;omega
theorem qvq (d:Nat) (h0:0<d) (h:d<18446744073709551616):9223372036854775808≤d*2^(64 - bl d)∧d*2^(64 - bl d)<18446744073709551616:=by
 have hb:=qog d h
 have e1:(18446744073709551616:Nat)=2^bl d*2^(64 - bl d):=by
  rw[←Nat.pow_add,show bl d+(64 - bl d)=64 by omega]
 have e2:(9223372036854775808:Nat)=2^(bl d - 1)*2^(64 - bl d):=by
  rw[←Nat.pow_add,show bl d - 1+(64 - bl d)=63 by unfold bl at*;omega]
 rw[e1,e2];exact⟨Nat.mul_le_mul_right _ (qt8 d h0),Nat.mul_lt_mul_of_pos_right (qkp d) (Nat.two_pow_pos _)⟩
theorem qqX (i:Nat):qfg i*pQ i*2^(lp2 ((i:Int) - 348) - 127).toNat=pP i*qf8 i*2^(127 - lp2 ((i:Int) - 348)).toNat:=by
 unfold qfg qf8;generalize 2^(lp2 ((i:Int) - 348) - 127).toNat=a;generalize 2^(127 - lp2 ((i:Int) - 348)).toNat=b;rw[Nat.mul_assoc,Nat.mul_assoc,Nat.mul_assoc,Nat.mul_comm b]
theorem qiK (i:Nat):0<pQ i:=by
 unfold pQ;split
 ·exact Nat.one_pos
 ·exact Nat.pos_of_ne_zero (fun h=>by simp at h)
theorem qje (i:Nat):0<qf8 i:=Nat.mul_pos (qiK i) (Nat.two_pow_pos _)
theorem qvt (n m:Nat) (h:m=n+130):4*2^n*340282366920938463463374607431768211456=(2:Nat)^m:=by
 rw[h,Nat.pow_add];generalize 2^n=x;omega
theorem qiP (d i s j W:Nat) (hb:bl d≤64) (hW:W=qf8 i*340282366920938463463374607431768211456)
 (h:(64 - (bl d:Int))+127 - lp2 ((i:Int) - 348)+j=1205+s):
 d*2^(64 - bl d)*qfg i*(pQ i*2^j)=4*(d*pP i*2^1075)*(2^s*W):=by
 obtain⟨K,hK⟩: ∃K:Nat,K=1075+130:=⟨_,rfl⟩;have hnd:=qqX i
 have h2:2^(64 - bl d)*2^j*2^(127 - lp2 ((i:Int) - 348)).toNat=2^K*2^s*2^(lp2 ((i:Int) - 348) - 127).toNat:=by
  rw[←Nat.pow_add,←Nat.pow_add,←Nat.pow_add,←Nat.pow_add];congr 1;omega
 have hp:0<2^(lp2 ((i:Int) - 348) - 127).toNat:=Nat.two_pow_pos _;have h4:4*2^1075*340282366920938463463374607431768211456=2^K:=qvt 1075 K hK;subst hW;generalize qfg i=num at*;generalize qf8 i=den at*;generalize pQ i=Q at*;generalize pP i=P at*;generalize 2^(lp2 ((i:Int) - 348) - 127).toNat=A at*;generalize 2^(127 - lp2 ((i:Int) - 348)).toNat=B at*;generalize 2^(64 - bl d)=C at*;generalize 2^j=J at*;generalize 2^s=S at*;generalize (2:Nat)^K=E1 at*;generalize (2:Nat)^1075=E2 at*;generalize (340282366920938463463374607431768211456:Nat)=E3 at*;refine Nat.eq_of_mul_eq_mul_right hp ?_
 calc d*C*num*(Q*J)*A=d*(C*J)*(num*Q*A):=by grind
  _=d*(C*J)*(P*den*B):=by rw[hnd]
  _=d*P*den*(C*J*B):=by grind
  _=d*P*den*(E1*S*A):=by rw[h2]
  _=d*P*den*(4*E2*E3*S*A):=by rw[h4]
  _=4*(d*P*E2)*(S*(den*E3))*A:=by grind
theorem qtI {N W S x num Z:Nat} (hW:0<W) (hZ:0<Z) (hx:x<18446744073709551616) (hb:num*1048576≤W*1048575) (hS:256≤S) (hc:x*num*Z=4*N*(S*W)):N<18014398509481983*Z:=by
 have a1:4*N*(S*W)*1048576≤x*(W*1048575)*Z:=by
  rw[←hc];have:x*num*1048576≤x*(W*1048575):=by rw[Nat.mul_assoc];exact Nat.mul_le_mul_left _ hb
  have:=Nat.mul_le_mul_right Z this;rw[Nat.mul_right_comm] at this;exact this
 have a2:x*(W*1048575)*Z≤18446744073709551616*(W*1048575)*Z:=Nat.mul_le_mul_right _ (Nat.mul_le_mul_right _ (by omega));have a3:4*N*(256*W)*1048576≤4*N*(S*W)*1048576:=Nat.mul_le_mul_right _ (Nat.mul_le_mul_left _ (Nat.mul_le_mul_right _ hS))
 have a5:W*(N*1073741824)≤W*(19342794667089993085747200*Z):=by
  have e1:W*(N*1073741824)=4*N*(256*W)*1048576:=by clear a1 a2 a3 hc hb;grind
  have e2:W*(19342794667089993085747200*Z)=18446744073709551616*(W*1048575)*Z:=by clear a1 a2 a3 hc hb;grind
  rw[e1,e2];exact Nat.le_trans a3 (Nat.le_trans a1 a2)
 have a6:=Nat.le_of_mul_le_mul_left a5 hW;omega
theorem qqC {N W x num Z:Nat} (hW:0<W) (hx:9223372036854775808≤x) (hb:W≤num*2) (hc:x*num*Z=4*N*(2^8*W)):4503599627370496*Z≤N:=by
 have a1:9223372036854775808*W*Z≤x*(num*2)*Z:=Nat.mul_le_mul_right _ (Nat.mul_le_mul hx hb);have a2:x*(num*2)*Z=2*(x*num*Z):=by clear a1 hb hc;grind
 rw[a2,hc] at a1
 have a5:W*(9223372036854775808*Z)≤W*(2048*N):=by
  have e1:W*(9223372036854775808*Z)=9223372036854775808*W*Z:=by clear a1 a2 hc hb;grind
  have e2:W*(2048*N)=2*(4*N*(2^8*W)):=by clear a1 a2 hc hb;grind
  rw[e1,e2];exact a1
 have a6:=Nat.le_of_mul_le_mul_left a5 hW;omega
theorem qqT {N W S x num Q:Nat} (hW:0<W) (hQ:0<Q) (hx:x<18446744073709551616) (hb:num*1048576≤W*1048575) (hS:18446744073709551616≤S) (hc:x*num*(Q*2)=4*N*(S*W)):N<Q:=by
 have hn:num≤W:=by omega
 have a1:x*num*(Q*2)≤18446744073709551615*W*(Q*2):=Nat.mul_le_mul_right _ (Nat.mul_le_mul (by omega) hn);have a2:4*N*(18446744073709551616*W)≤4*N*(S*W):=Nat.mul_le_mul_left _ (Nat.mul_le_mul_right _ hS)
 have a5:W*(4*18446744073709551616*N)≤W*(2*18446744073709551615*Q):=by
  have e1:W*(4*18446744073709551616*N)=4*N*(18446744073709551616*W):=by clear a1 a2 hc hb;grind
  have e2:W*(2*18446744073709551615*Q)=18446744073709551615*W*(Q*2):=by clear a1 a2 hc hb;grind
  rw[e1,e2];rw[hc] at a1;exact Nat.le_trans a2 a1
 have a6:=Nat.le_of_mul_le_mul_left a5 hW;omega
theorem qeB (d i:Nat) (h0:0<d) (hd:d<18446744073709551616) (hi:i<696):qbd (d*pP i*2^1075) (pQ i) (qce d i):=by
 have R:=qmD i hi;obtain⟨hx1,hx2⟩:=qvq d h0 hd;have hb:=qog d hd;have hb1:1≤bl d:=by unfold bl;omega
 have hQ:=qiK i;have hD:=qje i;obtain⟨W,hW⟩: ∃W,W=qf8 i*340282366920938463463374607431768211456:=⟨_,rfl⟩;have hlp: -1300≤lp2 ((i:Int) - 348)∧lp2 ((i:Int) - 348)≤1300:=by unfold lp2;omega
 unfold qce;dsimp only;obtain⟨c,hc⟩: ∃c:Int,c=(bl d:Int)+lp2 ((i:Int) - 348):=⟨_,rfl⟩;rw[←hc];have hse:pfE c=53 - c∧pfS c=8∧ -1021≤c∨pfE c=1074∧pfS c= -1013 - c∧c< -1021:=by unfold pfS pfE;omega
 obtain⟨s,hs⟩: ∃s:Nat,pfS c=s:=⟨(pfS c).toNat,by omega⟩;obtain⟨j,hj⟩: ∃j:Nat,1075 - pfE c=j:=⟨(1075 - pfE c).toNat,by omega⟩;have hcr:=qiP d i s j W hb hW (by omega);have hs8:8≤s:=by omega
 have hj1:1≤j:=by omega
 have hj8:1<j→s=8:=by omega
 have hs64:64≤s→j=1:=by omega
 rw[hs,hj,Int.toNat_natCast,Int.toNat_natCast];have hWp:0<W:=by rw[hW];exact Nat.mul_pos hD (by decide)
 have hSp:0<2^s:=Nat.two_pow_pos _;have hJp:0<2^j:=Nat.two_pow_pos _
 have hS256:256≤2^s:=by
  have:=Nat.pow_le_pow_right (n:=2) (by omega) hs8;exact this
 obtain⟨x,hx⟩: ∃x,x=d*2^(64 - bl d):=⟨_,rfl⟩;rw[←hx] at hcr hx1 hx2⊢;obtain⟨N,hN⟩: ∃N,N=d*pP i*2^1075:=⟨_,rfl⟩;rw[←hN] at hcr⊢;have hb2:=R.b2;rw[←hW] at hb2;have hb1':W≤qfg i*2:=by have:=R.b1;omega
 have hZp:0<pQ i*2^j:=Nat.mul_pos hQ hJp
 by_cases h64:(64:Int)≤s
 ·rw[if_pos h64];have hs':64≤s:=by omega
  have hS64:18446744073709551616≤2^s:=Nat.pow_le_pow_right (n:=2) (by omega) hs';have:=hs64 hs';subst this;have hlt:N<pQ i:=qqT (x:=x) (num:=qfg i) hWp hQ hx2 hb2 hS64 (by rw[Nat.pow_one] at hcr;exact hcr);refine⟨Nat.zero_le _,fun _=>⟨?_,fun _=>rfl⟩,fun h=>absurd h (Nat.lt_irrefl _)⟩;show N≤1*pQ i;omega
 ·rw[if_neg h64]
  have hu:usc x (thi i) (tlo i) s=unr (x*qfg i) (2^s*W):=by
   have hthi:18446744073709551616≤thi i*x:=by
    have:=Nat.mul_le_mul R.h1 hx1;omega
   refine qp6 x (thi i) (tlo i) s (qfg i) (qf8 i) (thi i*18446744073709551616 - tlo i) W (W*256) hW rfl hx2 (by omega) R.h3 ?_ hD R.n1 R.n2 hs8 ?_ ?_
   ·have:=R.h1;have:=R.h3;omega
   ·rw[Nat.mul_comm];exact Nat.div_pos hthi (by decide)
   ·intro y a b
    have eT:qf8 i*87112285931760246646623899502532662132736=W*256:=by
     rw[hW,Nat.mul_assoc]
    have:=R.ex x hx2 hx1 y (by rw[eT];exact a) (by rw[eT];exact b);rw[eT] at this;exact this
  rw[hu,qg4 (Nat.mul_pos hSp hWp) hZp hcr];refine qvu N (pQ i) j hQ hj1 (fun hj=>?_) (qtI (x:=x) (num:=qfg i) hWp hZp hx2 hb2 hS256 hcr);have:=hj8 hj;subst this;exact qqC (x:=x) (num:=qfg i) hWp hx1 hb1' hcr
theorem qtq (d i:Nat) (h0:0<d) (hd:d<18446744073709551616) (hi:i<696) (c:Int) (hc:c=(bl d:Int)+lp2 ((i:Int) - 348)) (s j x U:Nat) (hs:pfS c=s) (hj:1075 - pfE c=j) (hs64:s<64) (hx:x=d*2^(64 - bl d)) (hU:U=usc x (thi i) (tlo i) s):
 8≤s∧1≤j∧0<x*thi i/18446744073709551616∧(36028797018963966≤U→U/2 ||| U%2<36028797018963966∧18014398509481983≤U/2 ||| U%2)∧(1<j→18014398509481984≤U):=by
 have R:=qmD i hi;obtain⟨hx1,hx2⟩:=qvq d h0 hd;have hb:=qog d hd;have hb1:1≤bl d:=by unfold bl;omega
 have hQ:=qiK i;have hD:=qje i;obtain⟨W,hW⟩: ∃W,W=qf8 i*340282366920938463463374607431768211456:=⟨_,rfl⟩;have hlp: -1300≤lp2 ((i:Int) - 348)∧lp2 ((i:Int) - 348)≤1300:=by unfold lp2;omega
 have hse:pfE c=53 - c∧pfS c=8∧ -1021≤c∨pfE c=1074∧pfS c= -1013 - c∧c< -1021:=by unfold pfS pfE;omega
 have hcr:=qiP d i s j W hb hW (by omega);have hs8:8≤s:=by omega
 have hj1:1≤j:=by omega
 have hj8:1<j→s=8:=by omega
 have hWp:0<W:=by rw[hW];exact Nat.mul_pos hD (by decide)
 have hSp:0<2^s:=Nat.two_pow_pos _;have hJp:0<2^j:=Nat.two_pow_pos _
 have hS256:256≤2^s:=by
  have:=Nat.pow_le_pow_right (n:=2) (by omega) hs8;exact this
 rw[←hx] at hcr hx1 hx2;obtain⟨N,hN⟩: ∃N,N=d*pP i*2^1075:=⟨_,rfl⟩;rw[←hN] at hcr;have hb2:=R.b2;rw[←hW] at hb2;have hb1':W≤qfg i*2:=by have:=R.b1;omega
 have hZp:0<pQ i*2^j:=Nat.mul_pos hQ hJp
 have hthi:18446744073709551616≤thi i*x:=by
  have:=Nat.mul_le_mul R.h1 hx1;omega
 have hH:0<x*thi i/18446744073709551616:=by
  rw[Nat.mul_comm];exact Nat.div_pos hthi (by decide)
 have hu:usc x (thi i) (tlo i) s=unr (x*qfg i) (2^s*W):=by
  refine qp6 x (thi i) (tlo i) s (qfg i) (qf8 i) (thi i*18446744073709551616 - tlo i) W (W*256) hW rfl hx2 (by omega) R.h3 ?_ hD R.n1 R.n2 hs8 hH ?_
  ·have:=R.h1;have:=R.h3;omega
  ·intro y a b
   have eT:qf8 i*87112285931760246646623899502532662132736=W*256:=by
    rw[hW,Nat.mul_assoc]
   have:=R.ex x hx2 hx1 y (by rw[eT];exact a) (by rw[eT];exact b);rw[eT] at this;exact this
 rw[qg4 (Nat.mul_pos hSp hWp) hZp hcr] at hu;have hup:=qtI (x:=x) (num:=qfg i) hWp hZp hx2 hb2 hS256 hcr;refine⟨hs8,hj1,hH,fun g=>?_,fun g=>?_⟩
 ·rw[hU,hu] at g⊢;have g1:=qi4 _ _ _ hZp rfl g;rw[←qjh _ _ hZp];have hD3:0<pQ i*2^j*2:=by omega
  exact⟨qqp _ _ _ hD3 rfl (by omega),qiU _ _ _ hD3 (by omega)⟩
 ·rw[hU,hu];have hs8':=hj8 g;subst hs8';have:=qqC (x:=x) (num:=qfg i) hWp hx1 hb1' hcr;exact qiU _ _ _ hZp (by omega)
end Go.Proofs.YtdeimnnpcfncpaaGreatDoor
end
section
namespace Go.Proofs.YtdeimnnpcfncpaaGreatDoor
open Go Ieee
def f10 (k:Nat):Nat:=[4607182418800017408,4621819117588971520,4636737291354636288,4652007308841189376,4666723172467343360,4681608360884174848,4696837146684686336,4711630319722168320,4726483295884279808,4741671816366391296,4756540486875873280,4771362005757984768,4786511204640096256,4801453603149578240,4816244402031689728,4831355200913801216,4846369599423283200,4861130398305394688,4876203697187506176,4891288408196988160,4906019910204099648,4921056587992461136,4936209963552724370].getD k 0
theorem qmp (k:Nat) (h:k<23):V (f10 k)=10^k*2^1074∧f10 k<INF∧0<f10 k:=by
 have key: ∀k:Fin 23,V (f10 k.val)=10^k.val*2^1074∧f10 k.val<INF∧0<f10 k.val:=by decide+kernel
 exact key ⟨k,h⟩
theorem qsv (d:Nat) (h0:0<d) (h:d<9007199254740992): ∃r,r<INF∧V r=d*2^1074∧0<r∧floatOfInt .f64 (d:Int)=r:=by
 obtain⟨r,h1,h2,h3⟩:=qi1 d h0 h;refine⟨r,h1,h2,h3,?_⟩;have:=of_int false d h0 r h1 h2;rw[show sgw false+r=r from Nat.zero_add r] at this;show FloatKind.nearest .f64 (d:Int)=r;unfold FloatKind.nearest FloatKind.encode;rw[dF (by omega),Int.natAbs_natCast];exact this
theorem qlo (r:Nat) (h:r<INF):Op.negFloat .f64 r=sgw true+r:=by
 have hr:r<2^63:=Nat.lt_trans h (by decide);show r ^^^ 2^63=_;rw[show sgw true=2^63 from rfl];apply Nat.eq_of_testBit_eq;intro j;have e:2^63+r=2^63*1+r:=by rw[Nat.mul_one]
 rw[e,Nat.testBit_two_pow_mul_add 1 hr,Nat.testBit_xor,Nat.testBit_two_pow]
 by_cases hj:j<63
 ·rw[if_pos hj,dF (show¬(63=j) by omega),Bool.xor_false]
 ·rw[if_neg hj];have:r.testBit j=false:=Nat.testBit_lt_two_pow (Nat.lt_of_lt_of_le hr (Nat.pow_le_pow_right (by omega) (by omega)));rw[this]
  by_cases e2:j=63
  ·subst e2;rfl
  ·have:Nat.testBit 1 (j - 63)=false:=by
    apply Nat.testBit_lt_two_pow;exact Nat.one_lt_two_pow (by omega)
   rw[this,dF (show¬(63=j) by omega)];rfl
theorem qkJ (neg:Bool):sgw neg=0∨sgw neg=9223372036854775808:=by cases neg<;>simp[sgw]
theorem qny (a b:Nat) (ha:a<INF) (hb:b<INF):(FloatKind.f64.format.order a b=some (compare (V a:Int) (V b:Int)))∧(FloatKind.f64.format.order (9223372036854775808+a) (9223372036854775808+b)=some (compare (-(V a:Int)) (-(V b:Int)))):=by
 have key: ∀s:Bool,double.order (sgw s+a) (sgw s+b)=some (compare (if s then -(V a:Int) else V a) (if s then -(V b:Int) else V b)):=by
  intro s;unfold Format.order;rw[qbJ s a ha,qbJ s b hb];unfold Datum.order;dsimp only;obtain⟨p,hp⟩: ∃p,p=ex a - 1:=⟨_,rfl⟩;obtain⟨q,hq⟩: ∃q,q=ex b - 1:=⟨_,rfl⟩;have va:V a=fr a*2^p:=by rw[hp];rfl
  have vb:V b=fr b*2^q:=by rw[hq];rfl
  rw[←hp,←hq];have e1:(-1074+(p:Int) - min (-1074+(p:Int)) (-1074+(q:Int))).toNat=p - min p q:=by omega
  have e2:(-1074+(q:Int) - min (-1074+(p:Int)) (-1074+(q:Int))).toNat=q - min p q:=by omega
  rw[e1,e2];have f1:V a=fr a*2^(p - min p q)*2^min p q:=by rw[va,Nat.mul_assoc,←Nat.pow_add,Nat.sub_add_cancel (Nat.min_le_left _ _)]
  have f2:V b=fr b*2^(q - min p q)*2^min p q:=by rw[vb,Nat.mul_assoc,←Nat.pow_add,Nat.sub_add_cancel (Nat.min_le_right _ _)]
  rw[f1,f2];unfold signed;rw[Nat.shiftLeft_eq,Nat.shiftLeft_eq];generalize fr a*2^(p - min p q)=X;generalize fr b*2^(q - min p q)=Y;have hz:(0:Int)<((2^min p q:Nat):Int):=by have:=Nat.two_pow_pos (min p q);omega
  generalize (2^min p q:Nat)=Z at*
  have cmp: ∀x y:Int,compare x y=compare (x*Z) (y*Z):=by
   intro x y;rcases Int.lt_trichotomy x y with l|l|l
   ·have:x*Z<y*Z:=Int.mul_lt_mul_of_pos_right l hz;rw[show compare x y= .lt by simp[compare,compareOfLessAndEq,l],show compare (x*Z) (y*Z)= .lt by simp[compare,compareOfLessAndEq,this]]
   ·subst l;simp
   ·have:y*Z<x*Z:=Int.mul_lt_mul_of_pos_right l hz;rw[show compare x y= .gt by simp[compare,compareOfLessAndEq,show¬x<y by omega,show x≠y by omega],show compare (x*Z) (y*Z)= .gt by simp only[compare,compareOfLessAndEq,if_neg (show¬x*Z<y*Z by omega),if_neg (show¬x*Z=y*Z by omega)]]
  cases s
  ·simp only[Bool.false_eq_true,if_false];rw[cmp];simp
  ·simp only[if_true];rw[cmp];simp[Int.neg_mul]
 have k0:=key false;have k1:=key true;simp only[Bool.false_eq_true,if_false] at k0;simp only[if_true] at k1;refine⟨?_,k1⟩;rw[show sgw false+a=a from Nat.zero_add a,show sgw false+b=b from Nat.zero_add b] at k0;exact k0
def qpo (v:Nat):Int:=if v<9223372036854775808 then (v:Int) else -((v - 9223372036854775808:Nat):Int)
def qfo (v:Nat):Bool:=decide (INF<v%9223372036854775808)
theorem qeW {x y:Int} (h:x<y):compare x y= .lt:=by simp[compare,compareOfLessAndEq,h]
theorem qeJ {x y:Int} (h:y<x):compare x y= .gt:=by simp[compare,compareOfLessAndEq,show¬x<y by omega,show x≠y by omega]
theorem cmp_eq {x y:Int} (h:x=y):compare x y= .eq:=by subst h;simp
theorem qi6 {x y x' y':Int} (h1:x<y→x'<y') (h2:x=y→x'=y') (h3:y<x→y'<x'):compare x y=compare x' y':=by
 rcases Int.lt_trichotomy x y with l|l|l
 ·rw[qeW l,qeW (h1 l)]
 ·rw[cmp_eq l,cmp_eq (h2 l)]
 ·rw[qeJ l,qeJ (h3 l)]
theorem qmf (s t:Bool) (a b:Nat) (ha:a<INF) (hb:b<INF):double.order (sgw s+a) (sgw t+b)=some (compare (if s then -(V a:Int) else V a) (if t then -(V b:Int) else V b)):=by
 unfold Format.order;rw[qbJ s a ha,qbJ t b hb];unfold Datum.order;dsimp only;obtain⟨p,hp⟩: ∃p,p=ex a - 1:=⟨_,rfl⟩;obtain⟨q,hq⟩: ∃q,q=ex b - 1:=⟨_,rfl⟩;have va:V a=fr a*2^p:=by rw[hp];rfl
 have vb:V b=fr b*2^q:=by rw[hq];rfl
 rw[←hp,←hq];have e1:(-1074+(p:Int) - min (-1074+(p:Int)) (-1074+(q:Int))).toNat=p - min p q:=by omega
 have e2:(-1074+(q:Int) - min (-1074+(p:Int)) (-1074+(q:Int))).toNat=q - min p q:=by omega
 rw[e1,e2];have f1:V a=fr a*2^(p - min p q)*2^min p q:=by rw[va,Nat.mul_assoc,←Nat.pow_add,Nat.sub_add_cancel (Nat.min_le_left _ _)]
 have f2:V b=fr b*2^(q - min p q)*2^min p q:=by rw[vb,Nat.mul_assoc,←Nat.pow_add,Nat.sub_add_cancel (Nat.min_le_right _ _)]
 rw[f1,f2];unfold signed;rw[Nat.shiftLeft_eq,Nat.shiftLeft_eq];generalize fr a*2^(p - min p q)=X;generalize fr b*2^(q - min p q)=Y;have hz:0<2^min p q:=Nat.two_pow_pos _;generalize 2^min p q=Z at*;clear f1 f2 e1 e2 va vb hp hq;have hlt:X<Y→X*Z<Y*Z:=fun h=>Nat.mul_lt_mul_of_pos_right h hz
 have hgt:Y<X→Y*Z<X*Z:=fun h=>Nat.mul_lt_mul_of_pos_right h hz
 have he:X=Y→X*Z=Y*Z:=fun h=>by rw[h]
 have hx0:X=0→X*Z=0:=fun h=>by rw[h,Nat.zero_mul]
 have hy0:Y=0→Y*Z=0:=fun h=>by rw[h,Nat.zero_mul]
 have hx1:0<X→0<X*Z:=fun h=>Nat.mul_pos h hz
 have hy1:0<Y→0<Y*Z:=fun h=>Nat.mul_pos h hz
 generalize X*Z=XZ at*;generalize Y*Z=YZ at*
 congr 1
 apply qi6<;>cases s<;>cases t<;>simp only[Bool.false_eq_true,if_false,if_true]<;>omega
theorem qhh:V 0=0:=by decide
theorem qeo (s:Bool):double.read (sgw s+INF)= .infinity s:=by cases s<;>decide+kernel
theorem qiV (s:Bool) (a:Nat) (h:INF<a) (h2:a<9223372036854775808): ∃t,double.read (sgw s+a)= .nan s t:=by
 have e1:double.leastPlace= -1074:=by decide
 have e2:double.binade=4503599627370496:=by decide
 have e3:double.infRung=9218868437227405312:=by decide
 have e4:double.signWeight=9223372036854775808:=by decide
 have h':9218868437227405312<a:=h;unfold Format.read;dsimp only;rw[e1,e2,e3,e4];have m1:(sgw s+a)%9223372036854775808=a:=by cases s<;>simp only[sgw,Bool.false_eq_true,if_false,if_true]<;>omega
 have m2:((sgw s+a)/9223372036854775808%2==1)=s:=by
  cases s<;>simp only[sgw,Bool.false_eq_true,if_false,if_true]
  ·rw[beq_eq_false_iff_ne];omega
  ·rw[beq_iff_eq];omega
 rw[m1,m2,if_neg (by omega),if_neg (by omega),if_neg (by omega)];exact⟨_,rfl⟩
theorem qmF (s t:Bool) (a b:Nat) (ha:a≤INF) (hb:b≤INF):double.order (sgw s+a) (sgw t+b)=some (compare (if s then -(a:Int) else a) (if t then -(b:Int) else b)):=by
 rcases Nat.lt_or_ge a INF with ha'|ha'
 ·rcases Nat.lt_or_ge b INF with hb'|hb'
  ·rw[qmf s t a b ha' hb'];have m1:a<b→V a<V b:=qnm;have m2:b<a→V b<V a:=qnm;have m3:a=b→V a=V b:=fun h=>by rw[h]
   have m4:a=0→V a=0:=fun h=>by rw[h];exact qhh
   have m5:b=0→V b=0:=fun h=>by rw[h];exact qhh
   have m6:0<a→0<V a:=qoi;have m7:0<b→0<V b:=qoi;generalize V a=A at*;generalize V b=B at*
   congr 1
   apply qi6<;>cases s<;>cases t<;>simp only[Bool.false_eq_true,if_false,if_true]<;>omega
  ·obtain rfl:b=INF:=Nat.le_antisymm hb hb';unfold Format.order;rw[qbJ s a ha',qeo];unfold Datum.order;dsimp only
   congr 1
   have hI:a<9218868437227405312:=ha';have hII:(INF:Int)=9218868437227405312:=rfl;rw[hII];cases s<;>cases t<;>simp only[Bool.false_eq_true,if_false,if_true]
   ·rw[qeW (by omega)]
   ·rw[qeJ (by omega)]
   ·rw[qeW (by omega)]
   ·rw[qeJ (by omega)]
 ·obtain rfl:a=INF:=Nat.le_antisymm ha ha';rcases Nat.lt_or_ge b INF with hb'|hb'
  ·unfold Format.order;rw[qbJ t b hb',qeo];unfold Datum.order;dsimp only
   congr 1
   have hI:b<9218868437227405312:=hb';have hII:(INF:Int)=9218868437227405312:=rfl;rw[hII];cases s<;>cases t<;>simp only[Bool.false_eq_true,if_false,if_true]
   ·rw[qeJ (by omega)]
   ·rw[qeJ (by omega)]
   ·rw[qeW (by omega)]
   ·rw[qeW (by omega)]
  ·obtain rfl:b=INF:=Nat.le_antisymm hb hb';unfold Format.order;rw[qeo,qeo];cases s<;>cases t<;>decide+kernel
theorem qfE (v:Nat) (hv:v<18446744073709551616): ∃s a,v=sgw s+a∧a<9223372036854775808∧qpo v=(if s then -(a:Int) else a)∧qfo v=decide (INF<a):=by
 obtain⟨W,hW⟩: ∃W,W=9223372036854775808:=⟨_,rfl⟩;unfold qpo qfo sgw;rw[←hW];have hv2:v<2*W:=by omega
 clear hv hW
 by_cases h:v<W
 ·refine⟨false,v,?_,h,?_,?_⟩
  ·rw[if_neg (by decide),Nat.zero_add]
  ·rw[if_pos h,if_neg (by decide)]
  ·rw[Nat.mod_eq_of_lt h]
 ·have hm:v%W=v - W:=by rw[Nat.mod_eq_sub_mod (by omega),Nat.mod_eq_of_lt (by omega)]
  refine⟨true,v - W,?_,by omega,?_,?_⟩
  ·rw[if_pos rfl];omega
  ·rw[if_neg h,if_pos rfl]
  ·rw[hm]
theorem qho (x y:Datum) (s:Bool) (z:Nat) (h:x= .nan s z∨y= .nan s z):Datum.order x y=none:=by
 rcases h with rfl|rfl
 ·rfl
 ·cases x<;>rfl
theorem qjX (s t:Bool) (a b:Nat) (a1:a<9223372036854775808) (b1:b<9223372036854775808) (hn:INF<a∨INF<b):double.order (sgw s+a) (sgw t+b)=none:=by
 unfold Format.order;rcases hn with h|h
 ·obtain⟨z,hz⟩:=qiV s a h a1;exact qho _ _ s z (.inl hz)
 ·obtain⟨z,hz⟩:=qiV t b h b1;exact qho _ _ t z (.inr hz)
theorem qkm (p q:Prop) [Decidable p] [Decidable q] (X:Option Ordering) (o:Option Ordering) (h1:p∨q→o=none) (h2: ¬p→ ¬q→o=X):o=if (decide p||decide q)=true then none else X:=by
 by_cases h:p
 ·rw[h1 (.inl h),dT h];simp
 ·by_cases g:q
  ·rw[h1 (.inr g),dT g];simp
  ·rw[h2 h g,dF h,dF g];simp
theorem qgI (x y:Nat) (hx:x<18446744073709551616) (hy:y<18446744073709551616):double.order x y=if (qfo x||qfo y)=true then none else some (compare (qpo x) (qpo y)):=by
 obtain⟨s,a,e1,a1,o1,n1⟩:=qfE x hx;obtain⟨t,b,e2,b1,o2,n2⟩:=qfE y hy;rw[o1,o2,n1,n2];subst e1 e2;exact qkm _ _ _ _ (qjX s t a b a1 b1) (fun h h2=>qmF s t a b (Nat.le_of_not_lt h) (Nat.le_of_not_lt h2))
end Go.Proofs.YtdeimnnpcfncpaaGreatDoor
end
section
namespace Go.Proofs.YtdeimnnpcfncpaaGreatDoor
def isD (c:UInt8):Bool:=decide (48≤c.toNat)&&decide (c.toNat≤57)
structure MS where
 dot:Bool
 seen:Bool
 nd:Nat
 mant:Nat
 dp:Int
 trunc:Bool
def qaC (s:MS) (c:UInt8):MS:=
 if c=46 then {s with dot:=true,dp:=s.nd}
 else if c=48∧s.nd=0 then {s with seen:=true,dp:=s.dp - 1}
 else if s.nd<19 then {s with seen:=true,nd:=s.nd+1,mant:=s.mant*10+(c.toNat - 48)}
 else {s with seen:=true,nd:=s.nd+1,trunc:=s.trunc||(c !=48)}
def ms0:MS:=⟨false,false,0,0,0,false⟩
def qby (l:List UInt8):MS:=l.foldl qaC ms0
theorem qg1 (l:List UInt8) (c:UInt8):qby (l++[c])=qaC (qby l) c:=by unfold qby;rw[List.foldl_append];rfl
end Go.Proofs.YtdeimnnpcfncpaaGreatDoor
end
section
namespace Go.Proofs.YtdeimnnpcfncpaaGreatDoor
open Go Go.RowKit
def bt (s:ByteArray) (i:Nat):UInt8:=s.data.toList.getD i 0
theorem qvy (s:ByteArray) (i:Nat) (h:i<s.size):((s[i]'h).toNat:Int)=((bt s i).toNat:Int):=by
 have:i<s.data.toList.length:=by simpa using h
 unfold bt;rw[gZd,gZq this];rfl
theorem qbG (s:ByteArray) (i:Nat) (h:i<s.size): ∃c:UInt8,Hid (bt s i=c)∧(((s[i]'h).toNat:Int)=(c.toNat:Int)):=⟨_,Lh rfl,qvy s i h⟩
theorem qaJ (c d:UInt8) (n:Int) (hn:(d.toNat:Int)=n) (h:c≠d):((c.toNat:Int)==n)=false:=by
 subst hn;simp only[beq_eq_false_iff_ne,ne_eq];intro e;exact h (UInt8.toNat_inj.1 (by omega))
def mat (s:ByteArray) (a i:Nat):MS:=qby ((s.data.toList.take i).drop a)
theorem qel (s:ByteArray) (a i:Nat) (ha:a≤i) (hi:i<s.size):mat s a (i+1)=qaC (mat s a i) (bt s i):=by
 have hl:i<s.data.toList.length:=by simpa using hi
 unfold mat;rw[List.take_add_one,List.drop_append_of_le_length (by rw[List.length_take];omega),gZq hl];show qby (_++[s.data.toList[i]])=_;rw[qg1];unfold bt;rw[gZd,gZq hl];rfl
theorem qjb (s:ByteArray) (a:Nat):mat s a a=ms0:=by
 unfold mat;rw[List.drop_of_length_le (by rw[List.length_take];omega)];rfl
structure qjO (s:ByteArray) (a e:Nat):Prop where
 sz:s.size≤2000
 lt:a<e
 le:e≤s.size
 ch: ∀i,a≤i→i<e→isD (bt s i)=true∨(bt s i=46∧(mat s a i).dot=false)
 seen:(mat s a e).seen=true
theorem ql6 {s:ByteArray} {a e:Nat} (H:qjO s a e): ∀k,a+k≤e→(mat s a (a+k)).nd≤k∧(mat s a (a+k)).mant<10^min (mat s a (a+k)).nd 19∧ -(k:Int)≤(mat s a (a+k)).dp∧(mat s a (a+k)).dp≤k:=by
 have hle:=H.le;intro k
 induction k with
 |zero=>intro _;rw[Nat.add_zero,qjb];exact⟨Nat.le_refl _,by decide,by decide,by decide⟩
 |succ k ih=>
  intro hk;obtain⟨a1,b,c,d⟩:=ih (by omega);rw[show a+(k+1)=(a+k)+1 by omega,qel s a (a+k) (by omega) (by omega)];have hp:=H.ch (a+k) (by omega) (by omega);generalize bt s (a+k)=x at*;generalize mat s a (a+k)=st at*;unfold qaC
  by_cases g:x=46
  ·rw[if_pos g];exact⟨by show st.nd≤k+1;omega,b,by show -((k+1:Nat):Int)≤(st.nd:Int);omega,by show(st.nd:Int)≤_;omega⟩
  ·rw[if_neg g];have hd:isD x=true:=by rcases hp with h|h;exact h;exact absurd h.1 g
   unfold isD at hd;simp only[Bool.and_eq_true,decide_eq_true_eq] at hd
   split
   ·exact⟨by show st.nd≤k+1;omega,b,by show -((k+1:Nat):Int)≤st.dp - 1;omega,by show st.dp - 1≤_;omega⟩
   ·split
    ·rename_i g3
     refine⟨by show st.nd+1≤k+1;omega,?_,by show -((k+1:Nat):Int)≤st.dp;omega,by show st.dp≤_;omega⟩;show st.mant*10+(x.toNat - 48)<10^min (st.nd+1) 19;rw[Nat.min_eq_left (by omega)] at b⊢;rw[Nat.pow_succ];omega
    ·refine⟨by show st.nd+1≤k+1;omega,?_,by show -((k+1:Nat):Int)≤st.dp;omega,by show st.dp≤_;omega⟩;show st.mant<10^min (st.nd+1) 19;rw[Nat.min_eq_right (by omega)] at b⊢;exact b
def est (s:ByteArray) (q i:Nat):Nat:=((s.data.toList.take i).drop q).foldl (fun e c=>e*10+(c.toNat - 48)) 0
theorem qgB (s:ByteArray) (a i:Nat) (ha:a≤i) (hi:i<s.size):est s a (i+1)=est s a i*10+((bt s i).toNat - 48):=by
 have hl:i<s.data.toList.length:=by simpa using hi
 unfold est;rw[List.take_add_one,List.drop_append_of_le_length (by rw[List.length_take];omega),gZq hl];show(_++[s.data.toList[i]]).foldl _ _=_;rw[List.foldl_append];unfold bt;rw[gZd,gZq hl];rfl
theorem qkZ (s:ByteArray) (a:Nat):est s a a=0:=by
 unfold est;rw[List.drop_of_length_le (by rw[List.length_take];omega)];rfl
theorem qaq (c:UInt8):isD c=true↔48≤c.toNat∧c.toNat≤57:=by unfold isD;simp only[Bool.and_eq_true,decide_eq_true_eq]
inductive Tail (s:ByteArray) (e:Nat):Int→Prop
 |none (h:e=s.size):Tail s e 0
 |exp (b:Nat) (ne:Bool) (hc:bt s e=101∨bt s e=69) (hb:(b=0∧ne=false∧bt s (e+1)≠43∧bt s (e+1)≠45)∨(b=1∧((ne=false∧bt s (e+1)=43)∨(ne=true∧bt s (e+1)=45))))
   (hq:e+1+b<s.size) (h5:s.size≤e+1+b+5) (hd: ∀i,e+1+b≤i→i<s.size→isD (bt s i)=true):Tail s e (if ne then -(est s (e+1+b) s.size:Int) else (est s (e+1+b) s.size:Int))
theorem qlk (s:ByteArray) (q:Nat) (hd: ∀i,q≤i→i<s.size→isD (bt s i)=true): ∀k,q+k≤s.size→est s q (q+k)<10^k:=by
 intro k
 induction k with
 |zero=>intro _;rw[Nat.add_zero,qkZ];decide
 |succ k ih=>
  intro hk;have a:=ih (by omega);have:=(qaq _).1 (hd (q+k) (by omega) (by omega));rw[show q+(k+1)=(q+k)+1 by omega,qgB s q (q+k) (by omega) (by omega),Nat.pow_succ];omega
theorem qvU (c:UInt8) (h:c≠88∧c≠120):(((c.toNat ||| 32:Nat):Int)==120)=false:=by
 have: ∀n:Fin 256,n.val≠88→n.val≠120→n.val ||| 32≠120:=by decide+kernel
 have:=this ⟨c.toNat,c.toNat_lt⟩ (fun e=>h.1 (UInt8.toNat_inj.1 e)) (fun e=>h.2 (UInt8.toNat_inj.1 e));simp only[beq_eq_false_iff_ne,ne_eq];simp at this;omega
end Go.Proofs.YtdeimnnpcfncpaaGreatDoor
end
