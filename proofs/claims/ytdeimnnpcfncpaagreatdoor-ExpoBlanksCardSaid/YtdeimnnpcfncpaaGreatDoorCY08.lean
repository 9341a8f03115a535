/- Parts of the proof: F6 F7 F10 F11 F17. -/
import Derived.Laws.FloatArith
import Derived.Test.YtdeimnnpcfncpaaGreatDoorCY07
set_option linter.unusedVariables false
set_option linter.unusedSimpArgs false
set_option maxRecDepth 100000
set_option maxHeartbeats 64000000
section
namespace Go.Proofs.YtdeimnnpcfncpaaGreatDoor
def bl (d:Nat):Nat:=d.log2+1
def pfE (c:Int):Int:=min 1074 (53 - c)
def pfS (c:Int):Int:=61 - c - pfE c
def qbZ (d i:Nat):Nat:=
 let c:Int:=(bl d:Int)+lp2 ((i:Int) - 348)
 if 64≤pfS c then 0
 else pk (usc (d*2^(64 - bl d)) (thi i) (tlo i) (pfS c).toNat) (1075 - pfE c).toNat
theorem qjB (d:Nat):d<2^bl d:=Nat.lt_log2_self
theorem qqL (d:Nat) (h:0<d):2^(bl d - 1)≤d:=Nat.log2_self_le (by omega)
theorem qnD (d:Nat) (h:d<18446744073709551616):bl d≤64:=by
 by_cases h0:d=0
 ·subst h0;decide
 ·have:=(Nat.log2_lt (n:=d) (k:=64) h0).2 h;unfold bl;omega
theorem qsF (d:Nat) (h0:0<d) (h:d<18446744073709551616):9223372036854775808≤d*2^(64 - bl d)∧d*2^(64 - bl d)<18446744073709551616:=by
 have hb:=qnD d h
 have e1:(18446744073709551616:Nat)=2^bl d*2^(64 - bl d):=by
  rw[←Nat.pow_add,show bl d+(64 - bl d)=64 by omega]
 have e2:(9223372036854775808:Nat)=2^(bl d - 1)*2^(64 - bl d):=by
  rw[←Nat.pow_add,show bl d - 1+(64 - bl d)=63 by unfold bl at*;omega]
 rw[e1,e2];exact⟨Nat.mul_le_mul_right _ (qqL d h0),Nat.mul_lt_mul_of_pos_right (qjB d) (Nat.two_pow_pos _)⟩
theorem qpj (i:Nat):qem i*pQ i*2^(lp2 ((i:Int) - 348) - 127).toNat=pP i*qeQ i*2^(127 - lp2 ((i:Int) - 348)).toNat:=by
 unfold qem qeQ;generalize 2^(lp2 ((i:Int) - 348) - 127).toNat=a;generalize 2^(127 - lp2 ((i:Int) - 348)).toNat=b;rw[Nat.mul_assoc,Nat.mul_assoc,Nat.mul_assoc,Nat.mul_comm b]
theorem qhY (i:Nat):0<pQ i:=by
 unfold pQ;split
 ·exact Nat.one_pos
 ·exact Nat.pos_of_ne_zero (fun h=>by simp at h)
theorem qhD (i:Nat):0<qeQ i:=Nat.mul_pos (qhY i) (Nat.two_pow_pos _)
theorem qsO (n m:Nat) (h:m=n+130):4*2^n*340282366920938463463374607431768211456=(2:Nat)^m:=by
 rw[h,Nat.pow_add];generalize 2^n=x;omega
theorem qhG (d i s j W:Nat) (hb:bl d≤64) (hW:W=qeQ i*340282366920938463463374607431768211456)
 (h:(64 - (bl d:Int))+127 - lp2 ((i:Int) - 348)+j=1205+s):
 d*2^(64 - bl d)*qem i*(pQ i*2^j)=4*(d*pP i*2^1075)*(2^s*W):=by
 obtain⟨K,hK⟩: ∃K:Nat,K=1075+130:=⟨_,rfl⟩;have hnd:=qpj i
 have h2:2^(64 - bl d)*2^j*2^(127 - lp2 ((i:Int) - 348)).toNat=2^K*2^s*2^(lp2 ((i:Int) - 348) - 127).toNat:=by
  rw[←Nat.pow_add,←Nat.pow_add,←Nat.pow_add,←Nat.pow_add];congr 1;omega
 have hp:0<2^(lp2 ((i:Int) - 348) - 127).toNat:=Nat.two_pow_pos _;have h4:4*2^1075*340282366920938463463374607431768211456=2^K:=qsO 1075 K hK;subst hW;generalize qem i=num at*;generalize qeQ i=den at*;generalize pQ i=Q at*;generalize pP i=P at*;generalize 2^(lp2 ((i:Int) - 348) - 127).toNat=A at*;generalize 2^(127 - lp2 ((i:Int) - 348)).toNat=B at*;generalize 2^(64 - bl d)=C at*;generalize 2^j=J at*;generalize 2^s=S at*;generalize (2:Nat)^K=E1 at*;generalize (2:Nat)^1075=E2 at*;generalize (340282366920938463463374607431768211456:Nat)=E3 at*;refine Nat.eq_of_mul_eq_mul_right hp ?_
 calc d*C*num*(Q*J)*A=d*(C*J)*(num*Q*A):=by grind
  _=d*(C*J)*(P*den*B):=by rw[hnd]
  _=d*P*den*(C*J*B):=by grind
  _=d*P*den*(E1*S*A):=by rw[h2]
  _=d*P*den*(4*E2*E3*S*A):=by rw[h4]
  _=4*(d*P*E2)*(S*(den*E3))*A:=by grind
theorem qrb {N W S x num Z:Nat} (hW:0<W) (hZ:0<Z) (hx:x<18446744073709551616) (hb:num*1048576≤W*1048575) (hS:256≤S) (hc:x*num*Z=4*N*(S*W)):N<18014398509481983*Z:=by
 have a1:4*N*(S*W)*1048576≤x*(W*1048575)*Z:=by
  rw[←hc];have:x*num*1048576≤x*(W*1048575):=by rw[Nat.mul_assoc];exact Nat.mul_le_mul_left _ hb
  have:=Nat.mul_le_mul_right Z this;rw[Nat.mul_right_comm] at this;exact this
 have a2:x*(W*1048575)*Z≤18446744073709551616*(W*1048575)*Z:=Nat.mul_le_mul_right _ (Nat.mul_le_mul_right _ (by omega));have a3:4*N*(256*W)*1048576≤4*N*(S*W)*1048576:=Nat.mul_le_mul_right _ (Nat.mul_le_mul_left _ (Nat.mul_le_mul_right _ hS))
 have a5:W*(N*1073741824)≤W*(19342794667089993085747200*Z):=by
  have e1:W*(N*1073741824)=4*N*(256*W)*1048576:=by clear a1 a2 a3 hc hb;grind
  have e2:W*(19342794667089993085747200*Z)=18446744073709551616*(W*1048575)*Z:=by clear a1 a2 a3 hc hb;grind
  rw[e1,e2];exact Nat.le_trans a3 (Nat.le_trans a1 a2)
 have a6:=Nat.le_of_mul_le_mul_left a5 hW;omega
theorem qon {N W x num Z:Nat} (hW:0<W) (hx:9223372036854775808≤x) (hb:W≤num*2) (hc:x*num*Z=4*N*(2^8*W)):4503599627370496*Z≤N:=by
 have a1:9223372036854775808*W*Z≤x*(num*2)*Z:=Nat.mul_le_mul_right _ (Nat.mul_le_mul hx hb);have a2:x*(num*2)*Z=2*(x*num*Z):=by clear a1 hb hc;grind
 rw[a2,hc] at a1
 have a5:W*(9223372036854775808*Z)≤W*(2048*N):=by
  have e1:W*(9223372036854775808*Z)=9223372036854775808*W*Z:=by clear a1 a2 hc hb;grind
  have e2:W*(2048*N)=2*(4*N*(2^8*W)):=by clear a1 a2 hc hb;grind
  rw[e1,e2];exact a1
 have a6:=Nat.le_of_mul_le_mul_left a5 hW;omega
theorem qpl {N W S x num Q:Nat} (hW:0<W) (hQ:0<Q) (hx:x<18446744073709551616) (hb:num*1048576≤W*1048575) (hS:18446744073709551616≤S) (hc:x*num*(Q*2)=4*N*(S*W)):N<Q:=by
 have hn:num≤W:=by omega
 have a1:x*num*(Q*2)≤18446744073709551615*W*(Q*2):=Nat.mul_le_mul_right _ (Nat.mul_le_mul (by omega) hn);have a2:4*N*(18446744073709551616*W)≤4*N*(S*W):=Nat.mul_le_mul_left _ (Nat.mul_le_mul_right _ hS)
 have a5:W*(4*18446744073709551616*N)≤W*(2*18446744073709551615*Q):=by
  have e1:W*(4*18446744073709551616*N)=4*N*(18446744073709551616*W):=by clear a1 a2 hc hb;grind
  have e2:W*(2*18446744073709551615*Q)=18446744073709551615*W*(Q*2):=by clear a1 a2 hc hb;grind
  rw[e1,e2];rw[hc] at a1;exact Nat.le_trans a2 a1
 have a6:=Nat.le_of_mul_le_mul_left a5 hW;omega
theorem qdT (d i:Nat) (h0:0<d) (hd:d<18446744073709551616) (hi:i<696):qbm (d*pP i*2^1075) (pQ i) (qbZ d i):=by
 have R:=qjE i hi;obtain⟨hx1,hx2⟩:=qsF d h0 hd;have hb:=qnD d hd;have hb1:1≤bl d:=by unfold bl;omega
 have hQ:=qhY i;have hD:=qhD i;obtain⟨W,hW⟩: ∃W,W=qeQ i*340282366920938463463374607431768211456:=⟨_,rfl⟩;have hlp: -1300≤lp2 ((i:Int) - 348)∧lp2 ((i:Int) - 348)≤1300:=by unfold lp2;omega
 unfold qbZ;dsimp only;obtain⟨c,hc⟩: ∃c:Int,c=(bl d:Int)+lp2 ((i:Int) - 348):=⟨_,rfl⟩;rw[←hc];have hse:pfE c=53 - c∧pfS c=8∧ -1021≤c∨pfE c=1074∧pfS c= -1013 - c∧c< -1021:=by unfold pfS pfE;omega
 obtain⟨s,hs⟩: ∃s:Nat,pfS c=s:=⟨(pfS c).toNat,by omega⟩;obtain⟨j,hj⟩: ∃j:Nat,1075 - pfE c=j:=⟨(1075 - pfE c).toNat,by omega⟩;have hcr:=qhG d i s j W hb hW (by omega);have hs8:8≤s:=by omega
 have hj1:1≤j:=by omega
 have hj8:1<j→s=8:=by omega
 have hs64:64≤s→j=1:=by omega
 rw[hs,hj,Int.toNat_natCast,Int.toNat_natCast];have hWp:0<W:=by rw[hW];exact Nat.mul_pos hD (by decide)
 have hSp:0<2^s:=Nat.two_pow_pos _;have hJp:0<2^j:=Nat.two_pow_pos _
 have hS256:256≤2^s:=by
  have:=Nat.pow_le_pow_right (n:=2) (by omega) hs8;exact this
 obtain⟨x,hx⟩: ∃x,x=d*2^(64 - bl d):=⟨_,rfl⟩;rw[←hx] at hcr hx1 hx2⊢;obtain⟨N,hN⟩: ∃N,N=d*pP i*2^1075:=⟨_,rfl⟩;rw[←hN] at hcr⊢;have hb2:=R.b2;rw[←hW] at hb2;have hb1':W≤qem i*2:=by have:=R.b1;omega
 have hZp:0<pQ i*2^j:=Nat.mul_pos hQ hJp
 by_cases h64:(64:Int)≤s
 ·rw[if_pos h64];have hs':64≤s:=by omega
  have hS64:18446744073709551616≤2^s:=Nat.pow_le_pow_right (n:=2) (by omega) hs';have:=hs64 hs';subst this;have hlt:N<pQ i:=qpl (x:=x) (num:=qem i) hWp hQ hx2 hb2 hS64 (by rw[Nat.pow_one] at hcr;exact hcr);refine⟨Nat.zero_le _,fun _=>⟨?_,fun _=>rfl⟩,fun h=>absurd h (Nat.lt_irrefl _)⟩;show N≤1*pQ i;omega
 ·rw[if_neg h64]
  have hu:usc x (thi i) (tlo i) s=unr (x*qem i) (2^s*W):=by
   have hthi:18446744073709551616≤thi i*x:=by
    have:=Nat.mul_le_mul R.h1 hx1;omega
   refine qn7 x (thi i) (tlo i) s (qem i) (qeQ i) (thi i*18446744073709551616 - tlo i) W (W*256) hW rfl hx2 (by omega) R.h3 ?_ hD R.n1 R.n2 hs8 ?_ ?_
   ·have:=R.h1;have:=R.h3;omega
   ·rw[Nat.mul_comm];exact Nat.div_pos hthi (by decide)
   ·intro y a b
    have eT:qeQ i*87112285931760246646623899502532662132736=W*256:=by
     rw[hW,Nat.mul_assoc]
    have:=R.ex x hx2 hx1 y (by rw[eT];exact a) (by rw[eT];exact b);rw[eT] at this;exact this
  rw[hu,qgb (Nat.mul_pos hSp hWp) hZp hcr];refine qsZ N (pQ i) j hQ hj1 (fun hj=>?_) (qrb (x:=x) (num:=qem i) hWp hZp hx2 hb2 hS256 hcr);have:=hj8 hj;subst this;exact qon (x:=x) (num:=qem i) hWp hx1 hb1' hcr
theorem qrB (d i:Nat) (h0:0<d) (hd:d<18446744073709551616) (hi:i<696) (c:Int) (hc:c=(bl d:Int)+lp2 ((i:Int) - 348)) (s j x U:Nat) (hs:pfS c=s) (hj:1075 - pfE c=j) (hs64:s<64) (hx:x=d*2^(64 - bl d)) (hU:U=usc x (thi i) (tlo i) s):
 8≤s∧1≤j∧0<x*thi i/18446744073709551616∧(36028797018963966≤U→U/2 ||| U%2<36028797018963966∧18014398509481983≤U/2 ||| U%2)∧(1<j→18014398509481984≤U):=by
 have R:=qjE i hi;obtain⟨hx1,hx2⟩:=qsF d h0 hd;have hb:=qnD d hd;have hb1:1≤bl d:=by unfold bl;omega
 have hQ:=qhY i;have hD:=qhD i;obtain⟨W,hW⟩: ∃W,W=qeQ i*340282366920938463463374607431768211456:=⟨_,rfl⟩;have hlp: -1300≤lp2 ((i:Int) - 348)∧lp2 ((i:Int) - 348)≤1300:=by unfold lp2;omega
 have hse:pfE c=53 - c∧pfS c=8∧ -1021≤c∨pfE c=1074∧pfS c= -1013 - c∧c< -1021:=by unfold pfS pfE;omega
 have hcr:=qhG d i s j W hb hW (by omega);have hs8:8≤s:=by omega
 have hj1:1≤j:=by omega
 have hj8:1<j→s=8:=by omega
 have hWp:0<W:=by rw[hW];exact Nat.mul_pos hD (by decide)
 have hSp:0<2^s:=Nat.two_pow_pos _;have hJp:0<2^j:=Nat.two_pow_pos _
 have hS256:256≤2^s:=by
  have:=Nat.pow_le_pow_right (n:=2) (by omega) hs8;exact this
 rw[←hx] at hcr hx1 hx2;obtain⟨N,hN⟩: ∃N,N=d*pP i*2^1075:=⟨_,rfl⟩;rw[←hN] at hcr;have hb2:=R.b2;rw[←hW] at hb2;have hb1':W≤qem i*2:=by have:=R.b1;omega
 have hZp:0<pQ i*2^j:=Nat.mul_pos hQ hJp
 have hthi:18446744073709551616≤thi i*x:=by
  have:=Nat.mul_le_mul R.h1 hx1;omega
 have hH:0<x*thi i/18446744073709551616:=by
  rw[Nat.mul_comm];exact Nat.div_pos hthi (by decide)
 have hu:usc x (thi i) (tlo i) s=unr (x*qem i) (2^s*W):=by
  refine qn7 x (thi i) (tlo i) s (qem i) (qeQ i) (thi i*18446744073709551616 - tlo i) W (W*256) hW rfl hx2 (by omega) R.h3 ?_ hD R.n1 R.n2 hs8 hH ?_
  ·have:=R.h1;have:=R.h3;omega
  ·intro y a b
   have eT:qeQ i*87112285931760246646623899502532662132736=W*256:=by
    rw[hW,Nat.mul_assoc]
   have:=R.ex x hx2 hx1 y (by rw[eT];exact a) (by rw[eT];exact b);rw[eT] at this;exact this
 rw[qgb (Nat.mul_pos hSp hWp) hZp hcr] at hu;have hup:=qrb (x:=x) (num:=qem i) hWp hZp hx2 hb2 hS256 hcr;refine⟨hs8,hj1,hH,fun g=>?_,fun g=>?_⟩
 ·rw[hU,hu] at g⊢;have g1:=qhr _ _ _ hZp rfl g;rw[←qhE _ _ hZp];have hD3:0<pQ i*2^j*2:=by omega
  exact⟨qnO _ _ _ hD3 rfl (by omega),qhV _ _ _ hD3 (by omega)⟩
 ·rw[hU,hu];have hs8':=hj8 g;subst hs8';have:=qon (x:=x) (num:=qem i) hWp hx1 hb1' hcr;exact qhV _ _ _ hZp (by omega)
end Go.Proofs.YtdeimnnpcfncpaaGreatDoor
end
section
namespace Go.Proofs.YtdeimnnpcfncpaaGreatDoor
open Ieee
theorem qht (r:Nat):M r<2^54*2^(ex r - 1):=by
 unfold M;apply Nat.mul_lt_mul_of_pos_right _ (Nat.two_pow_pos _);have:fr r<9007199254740992:=by unfold fr;split<;>omega
 have e:(2:Nat)^54=18014398509481984:=rfl;omega
theorem qhA (X n q st Y:Nat) (hn:0<n) (hq:q=X/n) (hst:st=if X%n=0 then 0 else 1):(2*q+st≤2*Y↔X≤Y*n)∧(2*Y≤2*q+st↔Y*n≤X)∧(2*q+st=2*Y↔X=Y*n):=by
 have h:=Nat.div_add_mod X n;have hm:=Nat.mod_lt X hn;rw[←hq] at h
 have k1:2*q+st≤2*Y↔X≤Y*n:=by
  by_cases g:X%n=0
  ·rw[if_pos g] at hst;rw[g,Nat.add_zero] at h;subst hst;rw[←h,Nat.mul_comm Y];constructor
   ·intro e;exact Nat.mul_le_mul_left _ (by omega)
   ·intro e;have:=Nat.le_of_mul_le_mul_left e hn;omega
  ·rw[if_neg g] at hst;subst hst;constructor
   ·intro e;have:n*(q+1)≤n*Y:=Nat.mul_le_mul_left _ (by omega);rw[Nat.mul_add,Nat.mul_one] at this;rw[Nat.mul_comm Y];omega
   ·intro e;have:n*q<n*Y:=by rw[Nat.mul_comm n Y];omega
    have:=Nat.lt_of_mul_lt_mul_left this;omega
 have k2:2*Y≤2*q+st↔Y*n≤X:=by
  constructor
  ·intro e;have:Y≤q:=by rw[hst] at e;split at e<;>omega
   have:Y*n≤q*n:=Nat.mul_le_mul_right _ this;rw[Nat.mul_comm q] at this;omega
  ·intro e;have:Y≤X/n:=(Nat.le_div_iff_mul_le hn).2 e;omega
 exact⟨k1,k2,⟨fun e=>Nat.le_antisymm (k1.1 (by omega)) (k2.1 (by omega)),fun e=>Nat.le_antisymm (k1.2 (by omega)) (k2.2 (by omega))⟩⟩
theorem qq1:ex INF=2047:=by decide+kernel
theorem qlB (m n ea eb q st r:Nat) (hm1:4503599627370496≤m) (hn1:0<n) (hn2:n<9007199254740992) (hea:ea≤1100) (heb:1000≤eb)
 (hq:q=m*2^54/n) (hst:st=if m*2^54%n=0 then 0 else 1) (h:qbm ((2*q+st)*2^(ea+1020)) (2^eb) r):qbm (m*2^54*2^(ea+1021)) (n*2^eb) r:=by
 obtain⟨hr,h1,h2⟩:=h
 have hq53:9007199254740992≤q:=by
  rw[hq];refine(Nat.le_div_iff_mul_le hn1).2 ?_;have:(2:Nat)^54=18014398509481984:=rfl;omega
 have hT:2^(ea+1021)=2*2^(ea+1020):=by rw[show ea+1021=ea+1020+1 from rfl,Nat.pow_succ,Nat.mul_comm]
 have hP:0<2^(ea+1020):=Nat.two_pow_pos _;have hE:0<2^eb:=Nat.two_pow_pos _
 -- a multiple
 have key: ∀Mv Y:Nat,Mv*2^eb=Y*2^(ea+1021)→((2*q+st)*2^(ea+1020)≤Mv*2^eb↔m*2^54*2^(ea+1021)≤Mv*(n*2^eb))∧(Mv*2^eb≤(2*q+st)*2^(ea+1020)↔Mv*(n*2^eb)≤m*2^54*2^(ea+1021))∧((2*q+st)*2^(ea+1020)=Mv*2^eb↔m*2^54*2^(ea+1021)=Mv*(n*2^eb)):=by
  intro Mv Y e;obtain⟨a1,a2,a3⟩:=qhA (m*2^54) n q st Y hn1 hq hst;have e1:Mv*(n*2^eb)=Y*n*2^(ea+1021):=by rw[Nat.mul_left_comm,e,Nat.mul_comm Y n,Nat.mul_assoc]
  have hT2:0<2^(ea+1021):=Nat.two_pow_pos _;have e2:Y*2^(ea+1021)=2*Y*2^(ea+1020):=by rw[hT,Nat.mul_left_comm,Nat.mul_assoc]
  rw[e1,e,e2,Nat.mul_le_mul_right_iff hP,Nat.mul_le_mul_right_iff hP,Nat.mul_le_mul_right_iff hT2,Nat.mul_le_mul_right_iff hT2];refine⟨a1,a2,?_⟩;constructor
  ·intro e3;rw[a3.1 (Nat.eq_of_mul_eq_mul_right hP e3)]
  ·intro e3;rw[a3.2 (Nat.eq_of_mul_eq_mul_right hT2 e3)]
 -- exponents
 have hexp:r<INF→ea+1021≤ex r - 1+eb:=by
  intro hri;obtain⟨b1,_⟩:=h1 hri;have b2:=qht r;have b3:M r*2^eb<2^54*2^(ex r - 1)*2^eb:=Nat.mul_lt_mul_of_pos_right b2 hE;have b4:2^54*2^(ea+1020)≤(2*q+st)*2^(ea+1020):=Nat.mul_le_mul_right _ (by have:(2:Nat)^54=18014398509481984:=rfl;omega)
  have b5:2^(ea+1074)<2^(54+(ex r - 1)+eb):=by
   rw[show ea+1074=54+(ea+1020) by omega,Nat.pow_add 2 54 (ea+1020),Nat.pow_add 2 (54+(ex r - 1)) eb,Nat.pow_add 2 54 (ex r - 1)];exact Nat.lt_of_le_of_lt b4 (Nat.lt_of_le_of_lt b1 b3)
  have:=(Nat.pow_lt_pow_iff_right (a:=2) (by omega)).1 b5;omega
 have hex:ea+1021≤ex r - 1+eb:=by
  rcases Nat.lt_or_ge r INF with hri|hri
  ·exact hexp hri
  ·have e2:ex r=2047:=(congrArg ex (Nat.le_antisymm hr hri)).trans qq1;clear hq hst h1 h2 hexp key hT hP hE hr hri;omega
 have mul_of: ∀v:Nat,ea+1021≤ex v - 1+eb→M v*2^eb=(2*fr v+1)*2^(ex v - 1+eb - (ea+1021))*2^(ea+1021):=by
  intro v hv;unfold M;rw[Nat.mul_assoc,←Nat.pow_add,Nat.mul_assoc,←Nat.pow_add,Nat.sub_add_cancel hv]
 refine⟨hr,fun hri=>?_,fun hr0=>?_⟩
 ·obtain⟨b1,b2⟩:=h1 hri;obtain⟨k1,k2,k3⟩:=key _ _ (mul_of r hex);exact⟨k1.1 b1,fun e=>b2 (k3.2 e)⟩
 ·obtain⟨b1,b2⟩:=h2 hr0
  by_cases g:ea+1021≤ex (r - 1) - 1+eb
  ·obtain⟨k1,k2,k3⟩:=key _ _ (mul_of (r - 1) g);exact⟨k2.1 b1,fun e=>b2 (k3.2 e)⟩
  · -- the border of two binades
    have hx:ex (r - 1) - 1+eb=ea+1020:=by
     have:ex r≤ex (r - 1)+1:=by unfold ex;split<;>split<;>omega
     have:=qnL r;have:=qnL (r - 1);omega
    have b3:=qht (r - 1)
    have b4:M (r - 1)*2^eb<2^54*2^(ea+1020):=by
     rw[←hx,Nat.pow_add,←Nat.mul_assoc];exact Nat.mul_lt_mul_of_pos_right b3 hE
    have b5:M (r - 1)*2^eb<q*2^(ea+1021):=by
     refine Nat.lt_of_lt_of_le b4 ?_;rw[hT,←Nat.mul_assoc];exact Nat.mul_le_mul_right _ (by have:(2:Nat)^54=18014398509481984:=rfl;omega)
    have b6:M (r - 1)*(n*2^eb)<m*2^54*2^(ea+1021):=by
     rw[Nat.mul_left_comm];have c1:n*(M (r - 1)*2^eb)<n*(q*2^(ea+1021)):=Nat.mul_lt_mul_of_pos_left b5 hn1;have c2:n*q≤m*2^54:=by rw[hq];exact Nat.mul_div_le _ _
     have c3:n*(q*2^(ea+1021))≤m*2^54*2^(ea+1021):=by rw[←Nat.mul_assoc];exact Nat.mul_le_mul_right _ c2
     omega
    exact⟨Nat.le_of_lt b6,fun e=>by omega⟩
theorem qfL {r A:Nat} (hA:V r=A*2^1074) (h0:0<A) (h:A<2^75):4503599627370496≤fr r∧fr r<9007199254740992∧1000≤ex r - 1∧ex r - 1≤1100:=by
 have hf:fr r<9007199254740992:=by unfold fr;split<;>omega
 have hv:=qip r;obtain⟨K,hK⟩: ∃K:Nat,K=1074:=⟨_,rfl⟩;rw[←hK] at hA;have h1:2^K≤V r:=by rw[hA];exact Nat.le_mul_of_pos_left _ h0
 have hlo:1000≤ex r - 1:=by
  apply Nat.le_of_not_lt;intro hlt;have h2:fr r*2^(ex r - 1)<2^53*2^(ex r - 1):=Nat.mul_lt_mul_of_pos_right (show fr r<2^53 from hf) (Nat.two_pow_pos _);rw[hv,←Nat.pow_add] at h2;have e:2^(53+(ex r - 1))≤2^K:=Nat.pow_le_pow_right (by omega) (by omega);omega
 have hfl:4503599627370496≤fr r:=by
  unfold fr;unfold ex at hlo
  split
  ·rename_i g;rw[if_pos g] at hlo;omega
  ·omega
 refine⟨hfl,hf,hlo,?_⟩;apply Nat.le_of_not_lt;intro hlt;have h3:2^52*2^(ex r - 1)≤fr r*2^(ex r - 1):=Nat.mul_le_mul_right _ (show 2^52≤fr r from hfl);rw[hv,hA,←Nat.pow_add] at h3;have e:A*2^K<2^75*2^K:=Nat.mul_lt_mul_of_pos_right h (Nat.two_pow_pos _);rw[←Nat.pow_add] at e;have e2:2^(75+K)≤2^(52+(ex r - 1)):=Nat.pow_le_pow_right (by omega) (by omega);omega
theorem qn9 (m:Nat) (h1:4503599627370496≤m) (h2:m<9007199254740992):m.log2=52:=by
 have a:=(Nat.log2_lt (n:=m) (k:=53) (by omega)).2 h2
 have b: ¬m.log2<52:=fun h=>by
  have:=(Nat.log2_lt (n:=m) (k:=52) (by omega)).1 h;have e:(2:Nat)^52=4503599627370496:=rfl;omega
 omega
theorem qmD (s t:Bool) (a b A B:Nat) (ha:a<INF) (hb:b<INF) (hA:V a=A*2^1074) (hB:V b=B*2^1074) (hA0:0<A) (hB0:0<B) (hA1:A<2^75) (hB1:B<2^75):
 ∃r,double.div (sgw s+a) (sgw t+b)=some (sgw (s ^^ t)+r)∧qbm (A*2^1075) B r:=by
 obtain⟨m1,m2,m3,m4⟩:=qfL hA hA0 hA1;obtain⟨n1,n2,n3,n4⟩:=qfL hB hB0 hB1;have hlm:=qn9 _ m1 m2;have hln:=qn9 _ n1 n2;have fa:=qip a;have fb:=qip b;rw[hA] at fa;rw[hB] at fb;have ra:=qbE s a ha;have rb:=qbE t b hb;generalize fr a=m at*;generalize fr b=n at*;generalize ex a - 1=ea at*;generalize ex b - 1=eb at*;obtain⟨q,hq⟩: ∃q,q=m*2^54/n:=⟨_,rfl⟩;obtain⟨st,hst⟩: ∃st,st=if m*2^54%n=0 then 0 else 1:=⟨_,rfl⟩
 have hq53:9007199254740992≤q:=by
  rw[hq];refine(Nat.le_div_iff_mul_le (by omega)).2 ?_;have:(2:Nat)^54=18014398509481984:=rfl;omega
 obtain⟨r,h1,h2⟩:=qcZ (s ^^ t) (2*q+st) (-1074+(ea:Int) - (-1074+(eb:Int)) - 54 - 1) (by omega) eb (ea+1020) (by omega);refine⟨r,?_,?_⟩
 ·unfold Format.div;rw[ra,rb];simp only[Datum.quotient];rw[if_neg (by omega)];simp only[Option.map_some,Format.write];have e0:double.fractionBits+2=54:=rfl;rw[e0,hlm,hln,show 54+52 - 52=54 from rfl,Nat.shiftLeft_eq,←hq]
  have e1:(m*2^54%n !=0).toNat=st:=by
   rw[hst]
   by_cases g:m*2^54%n=0
   ·rw[if_pos g,g];rfl
   ·rw[if_neg g,show(m*2^54%n !=0)=true by simpa using g];rfl
  rw[e1];exact congrArg some h1
 ·have h3:=qlB m n ea eb q st r m1 (by omega) n2 m4 n3 hq hst h2;refine qes (Nat.mul_pos (by omega) (Nat.two_pow_pos _)) hB0 ?_ h3;obtain⟨K,hK⟩: ∃K:Nat,K=1074:=⟨_,rfl⟩;rw[fb,←hK];rw[←hK] at fa
  have e1:m*2^54*2^(ea+1021)=A*2^K*2^(K+1):=by
   rw[←fa,Nat.mul_assoc,Nat.mul_assoc,←Nat.pow_add,←Nat.pow_add];congr 2;omega
  rw[e1,show 1075=K+1 by omega];clear hA hB ra rb h1 h2 h3 e1 fa fb hK;generalize 2^(K+1)=Z1;generalize 2^K=Z2
  grind
end Go.Proofs.YtdeimnnpcfncpaaGreatDoor
end
section
namespace Go.Proofs.YtdeimnnpcfncpaaGreatDoor
open Go Ieee
def f10 (k:Nat):Nat:=[4607182418800017408,4621819117588971520,4636737291354636288,4652007308841189376,4666723172467343360,4681608360884174848,4696837146684686336,4711630319722168320,4726483295884279808,4741671816366391296,4756540486875873280,4771362005757984768,4786511204640096256,4801453603149578240,4816244402031689728,4831355200913801216,4846369599423283200,4861130398305394688,4876203697187506176,4891288408196988160,4906019910204099648,4921056587992461136,4936209963552724370].getD k 0
theorem qlo (k:Nat) (h:k<23):V (f10 k)=10^k*2^1074∧f10 k<INF∧0<f10 k:=by
 have key: ∀k:Fin 23,V (f10 k.val)=10^k.val*2^1074∧f10 k.val<INF∧0<f10 k.val:=by decide+kernel
 exact key ⟨k,h⟩
theorem qpe (d:Nat) (h0:0<d) (h:d<9007199254740992): ∃r,r<INF∧V r=d*2^1074∧0<r∧floatOfInt .f64 (d:Int)=r:=by
 obtain⟨r,h1,h2,h3⟩:=qhT d h0 h;refine⟨r,h1,h2,h3,?_⟩;have:=of_int false d h0 r h1 h2;rw[show sgw false+r=r from Nat.zero_add r] at this;show FloatKind.nearest .f64 (d:Int)=r;unfold FloatKind.nearest FloatKind.encode;rw[dF (by omega),Int.natAbs_natCast];exact this
theorem qjp (r:Nat) (h:r<INF):Op.negFloat .f64 r=sgw true+r:=by
 have hr:r<2^63:=Nat.lt_trans h (by decide);show r ^^^ 2^63=_;rw[show sgw true=2^63 from rfl];apply Nat.eq_of_testBit_eq;intro j;have e:2^63+r=2^63*1+r:=by rw[Nat.mul_one]
 rw[e,Nat.testBit_two_pow_mul_add 1 hr,Nat.testBit_xor,Nat.testBit_two_pow]
 by_cases hj:j<63
 ·rw[if_pos hj,dF (show¬(63=j) by omega),Bool.xor_false]
 ·rw[if_neg hj];have:r.testBit j=false:=Nat.testBit_lt_two_pow (Nat.lt_of_lt_of_le hr (Nat.pow_le_pow_right (by omega) (by omega)));rw[this]
  by_cases e2:j=63
  ·subst e2;rfl
  ·have:Nat.testBit 1 (j - 63)=false:=by
    apply Nat.testBit_lt_two_pow;exact Nat.one_lt_two_pow (by omega)
   rw[this,dF (show¬(63=j) by omega)];rfl
theorem qjV (neg:Bool):sgw neg=0∨sgw neg=9223372036854775808:=by cases neg<;>simp[sgw]
theorem qlE (a b:Nat) (ha:a<INF) (hb:b<INF):(FloatKind.f64.format.order a b=some (compare (V a:Int) (V b:Int)))∧(FloatKind.f64.format.order (9223372036854775808+a) (9223372036854775808+b)=some (compare (-(V a:Int)) (-(V b:Int)))):=by
 have key: ∀s:Bool,double.order (sgw s+a) (sgw s+b)=some (compare (if s then -(V a:Int) else V a) (if s then -(V b:Int) else V b)):=by
  intro s;unfold Format.order;rw[qbE s a ha,qbE s b hb];unfold Datum.order;dsimp only;obtain⟨p,hp⟩: ∃p,p=ex a - 1:=⟨_,rfl⟩;obtain⟨q,hq⟩: ∃q,q=ex b - 1:=⟨_,rfl⟩;have va:V a=fr a*2^p:=by rw[hp];rfl
  have vb:V b=fr b*2^q:=by rw[hq];rfl
  rw[←hp,←hq];have e1:(-1074+(p:Int) - min (-1074+(p:Int)) (-1074+(q:Int))).toNat=p - min p q:=by omega
  have e2:(-1074+(q:Int) - min (-1074+(p:Int)) (-1074+(q:Int))).toNat=q - min p q:=by omega
  rw[e1,e2];have f1:V a=fr a*2^(p - min p q)*2^min p q:=by rw[va,Nat.mul_assoc,←Nat.pow_add,Nat.sub_add_cancel (Nat.min_le_left _ _)]
  have f2:V b=fr b*2^(q - min p q)*2^min p q:=by rw[vb,Nat.mul_assoc,←Nat.pow_add,Nat.sub_add_cancel (Nat.min_le_right _ _)]
  rw[f1,f2];unfold signed;rw[Nat.shiftLeft_eq,Nat.shiftLeft_eq];generalize fr a*2^(p - min p q)=X;generalize fr b*2^(q - min p q)=Y;have hz:(0:Int)<((2^min p q:Nat):Int):=by have:=Nat.two_pow_pos (min p q);omega
  generalize (2^min p q:Nat)=Z at*
  have cmp: ∀x y:Int,compare x y=compare (x*Z) (y*Z):=by
   intro x y;rcases Int.lt_trichotomy x y with l|l|l
   ·have:x*Z<y*Z:=Int.mul_lt_mul_of_pos_right l hz;rw[show compare x y= .lt by simp[compare,compareOfLessAndEq,l],show compare (x*Z) (y*Z)= .lt by simp[compare,compareOfLessAndEq,this]]
   ·subst l;simp
   ·have:y*Z<x*Z:=Int.mul_lt_mul_of_pos_right l hz;rw[show compare x y= .gt by simp[compare,compareOfLessAndEq,show¬x<y by omega,show x≠y by omega],show compare (x*Z) (y*Z)= .gt by simp only[compare,compareOfLessAndEq,if_neg (show¬x*Z<y*Z by omega),if_neg (show¬x*Z=y*Z by omega)]]
  cases s
  ·simp only[Bool.false_eq_true,if_false];rw[cmp];simp
  ·simp only[if_true];rw[cmp];simp[Int.neg_mul]
 have k0:=key false;have k1:=key true;simp only[Bool.false_eq_true,if_false] at k0;simp only[if_true] at k1;refine⟨?_,k1⟩;rw[show sgw false+a=a from Nat.zero_add a,show sgw false+b=b from Nat.zero_add b] at k0;exact k0
def qmn (v:Nat):Int:=if v<9223372036854775808 then (v:Int) else -((v - 9223372036854775808:Nat):Int)
def qdU (v:Nat):Bool:=decide (INF<v%9223372036854775808)
theorem qee {x y:Int} (h:x<y):compare x y= .lt:=by simp[compare,compareOfLessAndEq,h]
theorem qea {x y:Int} (h:y<x):compare x y= .gt:=by simp[compare,compareOfLessAndEq,show¬x<y by omega,show x≠y by omega]
theorem cmp_eq {x y:Int} (h:x=y):compare x y= .eq:=by subst h;simp
theorem qhx {x y x' y':Int} (h1:x<y→x'<y') (h2:x=y→x'=y') (h3:y<x→y'<x'):compare x y=compare x' y':=by
 rcases Int.lt_trichotomy x y with l|l|l
 ·rw[qee l,qee (h1 l)]
 ·rw[cmp_eq l,cmp_eq (h2 l)]
 ·rw[qea l,qea (h3 l)]
theorem qj1 (s t:Bool) (a b:Nat) (ha:a<INF) (hb:b<INF):double.order (sgw s+a) (sgw t+b)=some (compare (if s then -(V a:Int) else V a) (if t then -(V b:Int) else V b)):=by
 unfold Format.order;rw[qbE s a ha,qbE t b hb];unfold Datum.order;dsimp only;obtain⟨p,hp⟩: ∃p,p=ex a - 1:=⟨_,rfl⟩;obtain⟨q,hq⟩: ∃q,q=ex b - 1:=⟨_,rfl⟩;have va:V a=fr a*2^p:=by rw[hp];rfl
 have vb:V b=fr b*2^q:=by rw[hq];rfl
 rw[←hp,←hq];have e1:(-1074+(p:Int) - min (-1074+(p:Int)) (-1074+(q:Int))).toNat=p - min p q:=by omega
 have e2:(-1074+(q:Int) - min (-1074+(p:Int)) (-1074+(q:Int))).toNat=q - min p q:=by omega
 rw[e1,e2];have f1:V a=fr a*2^(p - min p q)*2^min p q:=by rw[va,Nat.mul_assoc,←Nat.pow_add,Nat.sub_add_cancel (Nat.min_le_left _ _)]
 have f2:V b=fr b*2^(q - min p q)*2^min p q:=by rw[vb,Nat.mul_assoc,←Nat.pow_add,Nat.sub_add_cancel (Nat.min_le_right _ _)]
 rw[f1,f2];unfold signed;rw[Nat.shiftLeft_eq,Nat.shiftLeft_eq];generalize fr a*2^(p - min p q)=X;generalize fr b*2^(q - min p q)=Y;have hz:0<2^min p q:=Nat.two_pow_pos _;generalize 2^min p q=Z at*;clear f1 f2 e1 e2 va vb hp hq;have hlt:X<Y→X*Z<Y*Z:=fun h=>Nat.mul_lt_mul_of_pos_right h hz
 have hgt:Y<X→Y*Z<X*Z:=fun h=>Nat.mul_lt_mul_of_pos_right h hz
 have he:X=Y→X*Z=Y*Z:=fun h=>by rw[h]
 have hx0:X=0→X*Z=0:=fun h=>by rw[h,Nat.zero_mul]
 have hy0:Y=0→Y*Z=0:=fun h=>by rw[h,Nat.zero_mul]
 have hx1:0<X→0<X*Z:=fun h=>Nat.mul_pos h hz
 have hy1:0<Y→0<Y*Z:=fun h=>Nat.mul_pos h hz
 generalize X*Z=XZ at*;generalize Y*Z=YZ at*
 congr 1
 apply qhx<;>cases s<;>cases t<;>simp only[Bool.false_eq_true,if_false,if_true]<;>omega
theorem qfU:V 0=0:=by decide
theorem qdy (s:Bool):double.read (sgw s+INF)= .infinity s:=by cases s<;>decide+kernel
theorem qh0 (s:Bool) (a:Nat) (h:INF<a) (h2:a<9223372036854775808): ∃t,double.read (sgw s+a)= .nan s t:=by
 have e1:double.leastPlace= -1074:=by decide
 have e2:double.binade=4503599627370496:=by decide
 have e3:double.infRung=9218868437227405312:=by decide
 have e4:double.signWeight=9223372036854775808:=by decide
 have h':9218868437227405312<a:=h;unfold Format.read;dsimp only;rw[e1,e2,e3,e4];have m1:(sgw s+a)%9223372036854775808=a:=by cases s<;>simp only[sgw,Bool.false_eq_true,if_false,if_true]<;>omega
 have m2:((sgw s+a)/9223372036854775808%2==1)=s:=by
  cases s<;>simp only[sgw,Bool.false_eq_true,if_false,if_true]
  ·rw[beq_eq_false_iff_ne];omega
  ·rw[beq_iff_eq];omega
 rw[m1,m2,if_neg (by omega),if_neg (by omega),if_neg (by omega)];exact⟨_,rfl⟩
theorem qj7 (s t:Bool) (a b:Nat) (ha:a≤INF) (hb:b≤INF):double.order (sgw s+a) (sgw t+b)=some (compare (if s then -(a:Int) else a) (if t then -(b:Int) else b)):=by
 rcases Nat.lt_or_ge a INF with ha'|ha'
 ·rcases Nat.lt_or_ge b INF with hb'|hb'
  ·rw[qj1 s t a b ha' hb'];have m1:a<b→V a<V b:=qlv;have m2:b<a→V b<V a:=qlv;have m3:a=b→V a=V b:=fun h=>by rw[h]
   have m4:a=0→V a=0:=fun h=>by rw[h];exact qfU
   have m5:b=0→V b=0:=fun h=>by rw[h];exact qfU
   have m6:0<a→0<V a:=qne;have m7:0<b→0<V b:=qne;generalize V a=A at*;generalize V b=B at*
   congr 1
   apply qhx<;>cases s<;>cases t<;>simp only[Bool.false_eq_true,if_false,if_true]<;>omega
  ·obtain rfl:b=INF:=Nat.le_antisymm hb hb';unfold Format.order;rw[qbE s a ha',qdy];unfold Datum.order;dsimp only
   congr 1
   have hI:a<9218868437227405312:=ha';have hII:(INF:Int)=9218868437227405312:=rfl;rw[hII];cases s<;>cases t<;>simp only[Bool.false_eq_true,if_false,if_true]
   ·rw[qee (by omega)]
   ·rw[qea (by omega)]
   ·rw[qee (by omega)]
   ·rw[qea (by omega)]
 ·obtain rfl:a=INF:=Nat.le_antisymm ha ha';rcases Nat.lt_or_ge b INF with hb'|hb'
  ·unfold Format.order;rw[qbE t b hb',qdy];unfold Datum.order;dsimp only
   congr 1
   have hI:b<9218868437227405312:=hb';have hII:(INF:Int)=9218868437227405312:=rfl;rw[hII];cases s<;>cases t<;>simp only[Bool.false_eq_true,if_false,if_true]
   ·rw[qea (by omega)]
   ·rw[qea (by omega)]
   ·rw[qee (by omega)]
   ·rw[qee (by omega)]
  ·obtain rfl:b=INF:=Nat.le_antisymm hb hb';unfold Format.order;rw[qdy,qdy];cases s<;>cases t<;>decide+kernel
theorem qez (v:Nat) (hv:v<18446744073709551616): ∃s a,v=sgw s+a∧a<9223372036854775808∧qmn v=(if s then -(a:Int) else a)∧qdU v=decide (INF<a):=by
 obtain⟨W,hW⟩: ∃W,W=9223372036854775808:=⟨_,rfl⟩;unfold qmn qdU sgw;rw[←hW];have hv2:v<2*W:=by omega
 clear hv hW
 by_cases h:v<W
 ·refine⟨false,v,?_,h,?_,?_⟩
  ·rw[if_neg (by decide),Nat.zero_add]
  ·rw[if_pos h,if_neg (by decide)]
  ·rw[Nat.mod_eq_of_lt h]
 ·have hm:v%W=v - W:=by rw[Nat.mod_eq_sub_mod (by omega),Nat.mod_eq_of_lt (by omega)]
  refine⟨true,v - W,?_,by omega,?_,?_⟩
  ·rw[if_pos rfl];omega
  ·rw[if_neg h,if_pos rfl]
  ·rw[hm]
theorem qfH (x y:Datum) (s:Bool) (z:Nat) (h:x= .nan s z∨y= .nan s z):Datum.order x y=none:=by
 rcases h with rfl|rfl
 ·rfl
 ·cases x<;>rfl
theorem qiD (s t:Bool) (a b:Nat) (a1:a<9223372036854775808) (b1:b<9223372036854775808) (hn:INF<a∨INF<b):double.order (sgw s+a) (sgw t+b)=none:=by
 unfold Format.order;rcases hn with h|h
 ·obtain⟨z,hz⟩:=qh0 s a h a1;exact qfH _ _ s z (.inl hz)
 ·obtain⟨z,hz⟩:=qh0 t b h b1;exact qfH _ _ t z (.inr hz)
theorem qih (p q:Prop) [Decidable p] [Decidable q] (X:Option Ordering) (o:Option Ordering) (h1:p∨q→o=none) (h2: ¬p→ ¬q→o=X):o=if (decide p||decide q)=true then none else X:=by
 by_cases h:p
 ·rw[h1 (.inl h),dT h];simp
 ·by_cases g:q
  ·rw[h1 (.inr g),dT g];simp
  ·rw[h2 h g,dF h,dF g];simp
theorem qgu (x y:Nat) (hx:x<18446744073709551616) (hy:y<18446744073709551616):double.order x y=if (qdU x||qdU y)=true then none else some (compare (qmn x) (qmn y)):=by
 obtain⟨s,a,e1,a1,o1,n1⟩:=qez x hx;obtain⟨t,b,e2,b1,o2,n2⟩:=qez y hy;rw[o1,o2,n1,n2];subst e1 e2;exact qih _ _ _ _ (qiD s t a b a1 b1) (fun h h2=>qj7 s t a b (Nat.le_of_not_lt h) (Nat.le_of_not_lt h2))
end Go.Proofs.YtdeimnnpcfncpaaGreatDoor
end
