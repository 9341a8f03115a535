/- Parts of the proof: GB GC. -/
import Derived.Test.YtdeimnnpcfncpaaGreatDoorCY17
set_option linter.unusedVariables false
set_option linter.unusedSimpArgs false
set_option maxRecDepth 100000
set_option maxHeartbeats 64000000
namespace Go.Proofs.YtdeimnnpcfncpaaGreatDoor
open Go
def nsh (d:Nat):Nat:=if 9≤d then 27 else ptb d
theorem qie (d:Nat):1≤nsh d∧nsh d≤27∧(1≤d→2^nsh d≤10^d):=by
 unfold nsh
 by_cases h:9≤d
 ·rw[if_pos h];refine⟨by decide,by decide,fun _=>?_⟩;have:10^9≤10^d:=Nat.pow_le_pow_right (by decide) h;exact Nat.le_trans (by decide) this
 ·rw[if_neg h];have:d=0∨d=1∨d=2∨d=3∨d=4∨d=5∨d=6∨d=7∨d=8:=by omega
  rcases this with rfl|rfl|rfl|rfl|rfl|rfl|rfl|rfl|rfl<;>decide
theorem qlZ:nsh 0=1:=rfl
theorem qcO (n d:Nat):U10 (n+d)=U10 n*10^d:=by rw[←qbu];rfl
theorem qgM (a b:Nat) (h:a=b+1):U10 a=10*U10 b:=by subst h;unfold U10;rw[Nat.pow_succ,Nat.mul_comm]
theorem ql4 {X Z X' d n:Nat} {tr tr':Bool} (hX:U10 (1999+d)≤X) (hn:2^n≤10^d) (hn1:1≤n) (hZ:X=Z*2^n) (hc:Cut Z X' tr tr'):U10 1999≤X'∧X'<X:=by
 have h1:U10 1999*2^n≤Z*2^n:=by
  rw[←hZ];refine Nat.le_trans (Nat.mul_le_mul_left _ hn) ?_;rw[←qcO];exact hX
 have h2:=Nat.le_of_mul_le_mul_right h1 (Nat.two_pow_pos n);have hp:=qdc 1999;constructor
 ·have h3:(1:Nat)<U10 800:=by
   refine Nat.lt_of_lt_of_le (by decide:1<U10 1) (qa4 (by decide))
  obtain⟨e,he⟩: ∃e,e=1999:=⟨_,rfl⟩;rw[←he] at h2⊢;have:=qfl (A:=1) (e:=e) hc h3 (by rw[Nat.one_mul,qbr];exact h2);rw[Nat.one_mul,qbr] at this;exact this
 ·have h4:=qd6 hc;have h5:2≤2^n:=Nat.pow_le_pow_right (n:=2) (by decide) hn1;have h6:Z*2≤Z*2^n:=Nat.mul_le_mul_left _ h5;omega
theorem qtN:U10 311≤U2 1034:=by unfold U10 U2;decide+kernel
theorem qtH:U10 331<U2 1100:=by unfold U10 U2;decide+kernel
theorem qqw {X X0 q:Nat} (h1:X*U2 q≤X0*U2 0) (h2:U10 1999≤X) (h3:X0<U10 2310):q≤1034:=by
 apply Nat.le_of_not_lt;intro hlt;have e0:X0*U2 0=X0:=Nat.mul_one _;have h4:U10 1999*U2 q≤X*U2 q:=Nat.mul_le_mul_right _ h2;have h5:U2 1034≤U2 q:=qc8 (by omega);have h6:U10 1999*U10 311≤U10 1999*U2 q:=Nat.mul_le_mul_left _ (Nat.le_trans qtN h5);have h7:U10 1999*U10 311=U10 2310:=qbu 1999 311;omega
theorem qm0 {X X' n:Nat} {tr tr':Bool} (hX:0<X) (hn1:1≤n) (hc:Cut (X*2^n) X' tr tr'):X<X':=by
 have h5:2≤2^n:=Nat.pow_le_pow_right (n:=2) (by decide) hn1;have h6:X*2≤X*2^n:=Nat.mul_le_mul_left _ h5;rcases hc with ⟨rfl,_⟩|⟨_,_,Q,e,rfl,hQ,hZ⟩
 ·omega
 ·have h7:1≤Q:=Nat.le_trans (qdc 799) hQ;have h8:1*10^e≤Q*10^e:=Nat.mul_le_mul_right _ h7;rw[Nat.add_mul] at hZ;omega
theorem ql8:GG<U10 1669:=by
 have h1:GG*U10 331<U10 1669*U10 331:=by
  rw[qbu 1669 331,show 1669+331=2000 from rfl,←qin,Nat.mul_comm];exact Nat.mul_lt_mul_of_pos_right qtH qtt
 exact Nat.lt_of_mul_lt_mul_right h1
theorem qpa {X0 p q X n:Nat} {tr:Bool} (H:Inv X0 p q X tr p) (hp:p≤1099) (hq:q≤1034) (hn:X*2^n<U10 2000) (h0:(q=0∧U10 1669≤X0)∨U10 2000≤X0):p+n≤1099:=by
 apply Nat.le_of_not_lt;intro hlt;have hm:=H.mid 1 p (by rw[t55];decide) (Nat.le_refl _) (by omega);rw[Nat.one_mul] at hm
 have h1: ¬U2 p*GG≤X:=by
  intro h;have h2:U2 p*GG*2^n≤X*2^n:=Nat.mul_le_mul_right _ h;have h3:U2 p*GG*2^n=U2 (p+n)*GG:=by rw[qpN,Nat.mul_right_comm,qbX]
  have h4:U2 1100*GG≤U2 (p+n)*GG:=Nat.mul_le_mul_right _ (qc8 (by omega));rw[qin] at h4;omega
 have h2:X0*U2 p<U2 p*GG*U2 q:=Nat.lt_of_not_le fun h=>h1 (hm h)
 have h3:X0<GG*U2 q:=by
  rw[Nat.mul_comm (U2 p),Nat.mul_right_comm] at h2;exact Nat.lt_of_mul_lt_mul_right h2
 rcases h0 with ⟨rfl,h⟩|h
 ·rw[show U2 0=1 from rfl,Nat.mul_one] at h3;have:=ql8;omega
 ·have h4:GG*U2 q≤GG*U2 1100:=Nat.mul_le_mul_left _ (qc8 (by omega));rw[Nat.mul_comm GG (U2 1100),qin] at h4;omega
theorem qoi {X0 p q X:Nat} {tr:Bool} (H:Inv X0 p q X tr p) (hp:p≤1099) (hq:q≤1034) (hX:X<U10 2000) (h0:U10 2000≤X0):p<q:=by
 apply Nat.lt_of_not_le;intro hlt;have hm:=H.mid 1 1100 (by rw[t55];decide) (by omega) (by omega);rw[Nat.one_mul,qin] at hm;have h1:U10 2000*U2 q≤X0*U2 p:=Nat.mul_le_mul h0 (qc8 hlt);have:=hm h1;omega
theorem qoV {X X':Nat} {tr tr':Bool} (hX:5*U10 1999≤X) (hc:Cut (X*2^53) X' tr tr'):4503599627370496*U10 2000≤X':=by
 have e6:U10 2000=10*U10 1999:=qgM 2000 1999 rfl
 have h1:4503599627370496*U10 2000≤X*2^53:=by
  have h2:5*U10 1999*2^53≤X*2^53:=Nat.mul_le_mul_right _ hX;rw[show(2:Nat)^53=9007199254740992 from rfl] at h2⊢;rw[e6];clear hc e6 hX;generalize U10 1999=u at*;omega
 have h3:(4503599627370496:Nat)<U10 800:=by
  refine Nat.lt_of_lt_of_le (by decide:4503599627370496<U10 16) (qa4 (by decide))
 obtain⟨n,hn⟩: ∃n,n=2000:=⟨_,rfl⟩;rw[←hn] at h1⊢;exact qfl (e:=n) hc h3 h1
theorem qrc {X0 p q X:Nat} (h1:X*U2 q≤X0*U2 p) (hX:5*U10 1999≤X) (he:p+1025≤q):qbm (X0*U2 1075) (U10 2000) INF:=by
 refine qhH ?_;have e6:U10 2000=10*U10 1999:=qgM 2000 1999 rfl;have h2:5*U10 1999*U2 (1025+p)≤X*U2 q:=Nat.mul_le_mul hX (qc8 (by omega))
 have h3:5*U10 1999*U2 1025≤X0:=by
  refine Nat.le_of_mul_le_mul_right ?_ (qfT p);rw[Nat.mul_assoc,qbX];exact Nat.le_trans h2 h1
 have h4:5*U10 1999*U2 1025*U2 1075≤X0*U2 1075:=Nat.mul_le_mul_right _ h3;rw[Nat.mul_assoc,qbX,show 1025+1075=55+2045 from rfl,←qbX,t55] at h4;refine Nat.le_trans ?_ h4;rw[e6];generalize U2 2045=a;generalize U10 1999=b
 have e1:18014398509481983*a*(10*b)=180143985094819830*(a*b):=by
  rw[Nat.mul_comm 10 b,←Nat.mul_assoc,Nat.mul_assoc _ a b];omega
 have e2:5*b*(36028797018963968*a)=180143985094819840*(a*b):=by
  rw[Nat.mul_comm a b];rw[Nat.mul_comm 36028797018963968 a,←Nat.mul_assoc,Nat.mul_assoc 5 b a];omega
 rw[e1,e2];exact Nat.mul_le_mul_right _ (by decide)
def qbk (v:Nat) (x:Int) (r:Nat):Prop:=qbm (v*10^x.toNat*(UU*2)) (10^(-x).toNat) r
theorem qp9 (N d:Nat) (hd:0<d): ∃r,qbm N d r:=by
 have key: ∀n,(∃r,r≤n∧(r<INF→N≤M r*d)∧(r=INF∨r<INF)∧ ∀q,q<r→M q*d<N)∨(∀q,q≤n→q<INF∧M q*d<N):=by
  intro n
  induction n with
  |zero=>
   by_cases h:M 0*d<N
   ·exact .inr fun q hq=>by
     have:q=0:=by omega
     subst this;exact⟨by unfold INF;decide,h⟩
   ·exact .inl ⟨0,Nat.le_refl _,fun _=>Nat.le_of_not_lt h,.inr (by unfold INF;decide),fun q hq=>absurd hq (by omega)⟩
  |succ n ih=>
   rcases ih with ⟨r,h1,h2⟩|h
   ·exact .inl ⟨r,by omega,h2⟩
   ·by_cases hI:n+1=INF
    ·exact .inl ⟨n+1,Nat.le_refl _,fun h=>by omega,.inl hI,fun q hq=>(h q (by omega)).2⟩
    ·have hlt:n+1<INF:=by have:=(h n (Nat.le_refl _)).1;omega
     by_cases h3:M (n+1)*d<N
     ·exact .inr fun q hq=>by
       rcases Nat.lt_or_ge n q with h4|h4
       ·have:q=n+1:=by omega
        subst this;exact⟨hlt,h3⟩
       ·exact h q h4
     ·exact .inl ⟨n+1,Nat.le_refl _,fun _=>Nat.le_of_not_lt h3,.inr hlt,fun q hq=>(h q (by omega)).2⟩
 rcases key INF with ⟨r,h1,h2,h3,h4⟩|h
 ·have hlow:0<r→M (r - 1)*d<N:=fun h=>h4 _ (by omega)
  by_cases ht:r<INF∧N=M r*d∧r%2=1
  ·obtain⟨t1,t2,t3⟩:=ht;refine⟨r+1,by omega,fun _=>?_,fun _=>?_⟩
   ·have:M r*d<M (r+1)*d:=Nat.mul_lt_mul_of_pos_right (qta (Nat.lt_succ_self r)) hd;exact⟨by omega,fun e=>by omega⟩
   ·rw[Nat.add_sub_cancel];exact⟨Nat.le_of_eq t2.symm,fun _=>by omega⟩
  ·refine⟨r,h1,fun hr=>⟨h2 hr,fun e=>?_⟩,fun h0=>⟨Nat.le_of_lt (hlow h0),fun e=>by have:=hlow h0;omega⟩⟩
   by_cases h5:r%2=1
   ·exact absurd ⟨hr,e,h5⟩ ht
   ·omega
 ·exact absurd (h INF (Nat.le_refl _)).1 (Nat.lt_irrefl _)
theorem qfN {N1 d1 N2 d2 r:Nat} (hd1:0<d1) (hd2:0<d2) (e:N1*d2=N2*d1) (h:qbm N1 d1 r):qbm N2 d2 r:=
 qfs hd1 hd1 hd2 (Nat.le_of_eq e) (Nat.le_of_eq e.symm) h h
theorem qpF (v:Nat) (x:Int): ∃r,qbk v x r:=qp9 _ _ (p10 _)
theorem qgT {v:Nat} {x:Int} {r1 r2:Nat} (h1:qbk v x r1) (h2:qbk v x r2):r1=r2:=qd1 (p10 _) h1 h2
theorem qhN (v1 v2:Nat) (x1 x2 y:Int) (h1:y≤x1) (h2:y≤x2) (h:v1*10^(x1 - y).toNat≤v2*10^(x2 - y).toNat):
 v1*10^x1.toNat*(UU*2)*10^(-x2).toNat≤v2*10^x2.toNat*(UU*2)*10^(-x1).toNat:=by
 -- both times 10^(- y),or what is left of it
 have e1: ∀v (x x':Int),y≤x→y≤x'→v*10^x.toNat*(UU*2)*10^(-x').toNat*10^y.toNat*10^0=v*10^x.toNat*(UU*2)*10^(-x').toNat*10^y.toNat:=fun v x x' _ _=>by rw[Nat.pow_zero,Nat.mul_one]
 have k1:v1*10^x1.toNat*10^(-x2).toNat≤v2*10^x2.toNat*10^(-x1).toNat:=by
  rcases Int.le_total 0 x1 with p1|p1<;>rcases Int.le_total 0 x2 with p2|p2
  ·rw[show(-x1).toNat=0 by omega,show(-x2).toNat=0 by omega,Nat.pow_zero,Nat.mul_one,Nat.mul_one];rcases Int.le_total 0 y with p3|p3
   ·have:=Nat.mul_le_mul_right (10^y.toNat) h;rw[Nat.mul_assoc,Nat.mul_assoc,←Nat.pow_add,←Nat.pow_add,show(x1 - y).toNat+y.toNat=x1.toNat by omega,show(x2 - y).toNat+y.toNat=x2.toNat by omega] at this;exact this
   ·refine Nat.le_of_mul_le_mul_right (c:=10^(-y).toNat) ?_ (p10 _);rw[Nat.mul_assoc,Nat.mul_assoc,←Nat.pow_add,←Nat.pow_add,show x1.toNat+(-y).toNat=(x1 - y).toNat by omega,show x2.toNat+(-y).toNat=(x2 - y).toNat by omega];exact h
  ·rw[show(-x1).toNat=0 by omega,show x2.toNat=0 by omega,Nat.pow_zero,Nat.mul_one,Nat.mul_one];refine Nat.le_of_mul_le_mul_right (c:=10^(x2 - y).toNat) ?_ (p10 _);rw[Nat.mul_assoc,Nat.mul_assoc,←Nat.pow_add,←Nat.pow_add,show x1.toNat+((-x2).toNat+(x2 - y).toNat)=(x1 - y).toNat by omega];exact h
  ·rw[show x1.toNat=0 by omega,show(-x2).toNat=0 by omega,Nat.pow_zero,Nat.mul_one,Nat.mul_one];refine Nat.le_of_mul_le_mul_right (c:=10^(x1 - y).toNat) ?_ (p10 _);rw[Nat.mul_assoc,Nat.mul_assoc,←Nat.pow_add,←Nat.pow_add,show x2.toNat+((-x1).toNat+(x1 - y).toNat)=(x2 - y).toNat by omega];exact h
  ·rw[show x1.toNat=0 by omega,show x2.toNat=0 by omega,Nat.pow_zero,Nat.mul_one,Nat.mul_one];refine Nat.le_of_mul_le_mul_right (c:=10^(-y).toNat) ?_ (p10 _)
   have a1:10^(-x2).toNat*10^(-y).toNat=10^(x1 - y).toNat*(10^(-x1).toNat*10^(-x2).toNat):=by
    rw[←Nat.pow_add,←Nat.pow_add,←Nat.pow_add];congr 1;omega
   have a2:10^(-x1).toNat*10^(-y).toNat=10^(x2 - y).toNat*(10^(-x1).toNat*10^(-x2).toNat):=by
    rw[←Nat.pow_add,←Nat.pow_add,←Nat.pow_add];congr 1;omega
   rw[Nat.mul_assoc,Nat.mul_assoc,a1,a2,←Nat.mul_assoc v1,←Nat.mul_assoc v2];exact Nat.mul_le_mul_right _ h
 rw[Nat.mul_right_comm,Nat.mul_right_comm (v2*_)];exact Nat.mul_le_mul_right _ k1
theorem qqz {v1 v2:Nat} {x1 x2 y:Int} {r:Nat} (h1:y≤x1) (h2:y≤x2) (h:v1*10^(x1 - y).toNat=v2*10^(x2 - y).toNat) (n1:qbk v1 x1 r):qbk v2 x2 r:=
 qfN (p10 _) (p10 _) (Nat.le_antisymm (qhN v1 v2 x1 x2 y h1 h2 (Nat.le_of_eq h)) (qhN v2 v1 x2 x1 y h2 h1 (Nat.le_of_eq h.symm))) n1
theorem qrw {v1 v2 v:Nat} {x1 x y:Int} {r:Nat} (h1:y≤x1) (h2:y≤x) (l:v1*10^(x1 - y).toNat≤v*10^(x - y).toNat) (u:v*10^(x - y).toNat≤v2*10^(x1 - y).toNat) (n1:qbk v1 x1 r) (n2:qbk v2 x1 r):qbk v x r:=
 qfs (p10 _) (p10 _) (p10 _) (qhN v1 v x1 x y h1 h2 l) (qhN v v2 x x1 y h2 h1 u) n1 n2
theorem qhb (x:Int):qbk 0 x 0:=by
 unfold qbk;rw[Nat.zero_mul,Nat.zero_mul];exact qgo (Nat.zero_le _)
theorem qoT:18014398509481983*U2 2045≤U10 310*(UU*2):=by unfold U10 U2 UU;decide+kernel
theorem qjM:UU*2≤U10 324:=by unfold U10 UU;decide+kernel
theorem qsI:U2 1075=UU*2:=by unfold U2 UU;decide+kernel
theorem qjd {v:Nat} {x:Int} {k:Nat} (hv:10^k≤v) (h:310≤(k:Int)+x):qbk v x INF:=by
 refine qhH ?_;have h1:10^k*10^x.toNat*(UU*2)≤v*10^x.toNat*(UU*2):=Nat.mul_le_mul_right _ (Nat.mul_le_mul_right _ hv);refine Nat.le_trans ?_ h1
 have h2:U10 310*10^(-x).toNat≤10^k*10^x.toNat:=by
  rw[←qcO,←Nat.pow_add,qbr];exact qa4 (by omega)
 have h3:=Nat.mul_le_mul_right (10^(-x).toNat) qoT;refine Nat.le_trans h3 ?_;rw[Nat.mul_right_comm];exact Nat.mul_le_mul_right _ h2
theorem qe4 {v:Nat} {x:Int} {k:Nat} (hv:v<10^k) (h:(k:Int)+x≤ -324):qbk v x 0:=by
 refine qgo ?_;rw[show x.toNat=0 by omega,Nat.pow_zero,Nat.mul_one];have h1:v*(UU*2)≤10^k*U10 324:=Nat.mul_le_mul (Nat.le_of_lt hv) qjM;refine Nat.le_trans h1 ?_;rw[qbr,qbu,qbr];exact qa4 (by omega)
theorem qrv {g:Nat→Nat} {nd:Nat} {x:Int} {r:Nat} (hx: -2000≤x) (h:qbm (dec g nd (nd+(x+2000).toNat)*U2 1075) (U10 2000) r):qbk (num g nd) x r:=by
 refine qfN (qdc _) (p10 _) ?_ h;unfold dec;rw[qsI,Nat.add_sub_cancel_left];obtain⟨q,hq⟩: ∃q,q=2000:=⟨_,rfl⟩
 have e:10^(x+2000).toNat*10^(-x).toNat=10^x.toNat*U10 2000:=by
  rw[←hq,qbr,qbr,qbr,qbu,qbu];congr 1;omega
 calc num g nd*10^(x+2000).toNat*(UU*2)*10^(-x).toNat=num g nd*(UU*2)*(10^(x+2000).toNat*10^(-x).toNat):=by simp only[Nat.mul_assoc,Nat.mul_left_comm,Nat.mul_comm]
  _=num g nd*10^x.toNat*(UU*2)*U10 2000:=by rw[e];simp only[Nat.mul_assoc,Nat.mul_left_comm,Nat.mul_comm]
theorem qn4 (d:Nat) (p:Int) (hd:d<10000000000000000000):qbk d p (v64 d p):=by
 unfold v64
 by_cases h0:d=0
 ·rw[if_pos h0,h0];exact qhb p
 ·rw[if_neg h0]
  by_cases h1:310<p
  ·rw[if_pos h1];exact qjd (k:=0) (by rw[Nat.pow_zero];omega) (by omega)
  ·rw[if_neg h1]
   by_cases h2:p< -345
   ·rw[if_pos h2];exact qe4 (k:=19) (by omega) (by omega)
   ·rw[if_neg h2];exact qff d p (by omega) (by omega) (by omega) (by omega)
theorem qsj {v d k:Nat} {p:Int} (h0:0<d) (hd:d<10000000000000000000) (l:d*10^k≤v) (u:v<(d+1)*10^k) (hsm: -345≤p→p≤310→qbZ (d+1) (p+348).toNat=qbZ d (p+348).toNat):qbk v (p - k) (v64 d p):=by
 have e1:(p - (p - k)).toNat=k:=by omega
 by_cases h1:310<p
 ·have:v64 d p=INF:=by unfold v64;rw[if_neg (by omega),if_pos h1]
  rw[this];exact qjd (k:=k) (Nat.le_trans (Nat.le_mul_of_pos_left _ h0) l) (by omega)
 ·by_cases h2:p< -345
  ·have:v64 d p=0:=by unfold v64;rw[if_neg (by omega),if_neg h1,if_pos h2]
   rw[this];refine qe4 (k:=19+k) (Nat.lt_of_lt_of_le u ?_) (by omega);rw[Nat.pow_add];exact Nat.mul_le_mul_right _ (by omega)
  ·have n1:=qn4 d p hd
   have n2:qbk (d+1) p (v64 d p):=by
    have h3:v64 d p=qbZ (d+1) (p+348).toNat:=by
     unfold v64;rw[if_neg (by omega),if_neg h1,if_neg h2,hsm (by omega) (by omega)]
    rw[h3];exact qff (d+1) p (by omega) (by omega) (by omega) (by omega)
   refine qrw (y:=p - k) (by omega) (Int.le_refl _) ?_ ?_ n1 n2
   ·rw[e1,Int.sub_self];show d*10^k≤v*1;omega
   ·rw[e1,Int.sub_self];show v*1≤(d+1)*10^k;omega
end Go.Proofs.YtdeimnnpcfncpaaGreatDoor
