/- Parts of the proof: GA. -/
import Derived.Test.YtdeimnnpcfncpaaGreatDoorCY00
set_option linter.unusedVariables false
set_option linter.unusedSimpArgs false
set_option maxRecDepth 100000
set_option maxHeartbeats 64000000
namespace Go.Proofs.YtdeimnnpcfncpaaGreatDoor
def U10 (n:Nat):Nat:=10^n
theorem qa4 {a b:Nat} (h:a≤b):U10 a≤U10 b:=by unfold U10;exact Nat.pow_le_pow_right (by decide) h
theorem qbr (a:Nat):10^a=U10 a:=rfl
def U2 (n:Nat):Nat:=2^n
def U5 (n:Nat):Nat:=5^n
theorem qbX (a b:Nat):U2 a*U2 b=U2 (a+b):=by unfold U2;exact(Nat.pow_add 2 a b).symm
theorem qoq (n:Nat):U10 n=U2 n*U5 n:=by unfold U10 U2 U5;rw[←Nat.mul_pow]
theorem qc8 {a b:Nat} (h:a≤b):U2 a≤U2 b:=by unfold U2;exact Nat.pow_le_pow_right (by decide) h
theorem qoI {a b:Nat} (h:a≤b):U5 a≤U5 b:=by unfold U5;exact Nat.pow_le_pow_right (by decide) h
theorem qn5 (n:Nat):0<U5 n:=by unfold U5;exact Nat.pow_pos (by decide)
def num (g:Nat→Nat):Nat→Nat
 |0=>0
 |n+1=>10*num g n+(g n - 48)
def qdm (g:Nat→Nat) (n:Nat):Prop:= ∀i,i<n→48≤g i∧g i≤57
def ext (g:Nat→Nat) (nd i:Nat):Nat:=if i<nd then g i else 48
theorem qbh {g h:Nat→Nat}: ∀n,(∀i,i<n→g i=h i)→num g n=num h n
 |0,_=>rfl
 |n+1,e=>by
  show 10*num g n+(g n - 48)=10*num h n+(h n - 48);rw[qbh n (fun i hi=>e i (by omega)),e n (by omega)]
theorem qet {g:Nat→Nat}: ∀n,qdm g n→num g n<10^n
 |0,_=>by show 0<1;omega
 |n+1,h=>by
  show 10*num g n+(g n - 48)<10^(n+1);have:=qet n (fun i hi=>h i (by omega));have:=h n (by omega);rw[Nat.pow_succ];omega
theorem qfk (g:Nat→Nat) (m:Nat): ∀k,num g (m+k)=num g m*10^k+num (fun i=>g (m+i)) k
 |0=>by show num g m=num g m*1+0;omega
 |k+1=>by
  show 10*num g (m+k)+(g (m+k) - 48)=num g m*10^(k+1)+(10*num (fun i=>g (m+i)) k+(g (m+k) - 48));rw[qfk g m k,Nat.pow_succ,←Nat.mul_assoc];generalize num g m*10^k=x at*;omega
theorem qa7 (g:Nat→Nat) (m k:Nat):num g m*10^k≤num g (m+k):=by rw[qfk];exact Nat.le_add_right _ _
theorem qc0 {g:Nat→Nat} {m k:Nat} (h:qdm g (m+k)):num g (m+k)<(num g m+1)*10^k:=by
 rw[qfk,Nat.add_mul,Nat.one_mul];exact Nat.add_lt_add_left (qet k fun i hi=>h (m+i) (by omega)) _
theorem qcM (g:Nat→Nat) (m:Nat): ∀k,(∀i,m≤i→i<m+k→g i=48)→num g (m+k)=num g m*10^k
 |0,_=>by show num g m=num g m*1;omega
 |k+1,h=>by
  show 10*num g (m+k)+(g (m+k) - 48)=_;rw[qcM g m k (fun i h1 h2=>h i h1 (by omega)),h (m+k) (by omega) (by omega),Nat.pow_succ,←Nat.mul_assoc (num g m)];generalize num g m*10^k=x;omega
theorem qeb {g:Nat→Nat} {n:Nat} (hn:0<n) (h0:48<g 0):10^(n - 1)≤num g n:=by
 obtain⟨k,rfl⟩: ∃k,n=1+k:=⟨n - 1,by omega⟩;refine Nat.le_trans ?_ (qa7 g 1 k);rw[Nat.add_sub_cancel_left];refine Nat.le_mul_of_pos_left _ ?_;show 0<10*0+(g 0 - 48);omega
theorem qbP {g:Nat→Nat} {nd:Nat} (h:qdm g nd) (n:Nat):qdm (ext g nd) n:=by
 intro i _;unfold ext
 by_cases hi:i<nd
 ·rw[if_pos hi];exact h i hi
 ·rw[if_neg hi];omega
theorem qi1 (g:Nat→Nat) {nd n:Nat} (h:n≤nd):num (ext g nd) n=num g n:=qbh n fun i hi=>by unfold ext;rw[if_pos (by omega)]
theorem qhf (g:Nat→Nat) (nd k:Nat):num (ext g nd) (nd+k)=num g nd*10^k:=by
 rw[qcM _ _ _ (fun i h1 _=>by unfold ext;rw[if_neg (by omega)]),qi1 g (Nat.le_refl _)]
def qd (c:Nat→Nat) (r k i:Nat):Nat:=(num c (r+i)%(10*2^k))/2^k
def qb (c:Nat→Nat) (r k i:Nat):Nat:=48+qd c r k i
theorem qpd (k:Nat):0<10*2^k:=Nat.mul_pos (by decide) (Nat.two_pow_pos k)
theorem qth (c:Nat→Nat) (r k i:Nat):qd c r k i<10:=by
 unfold qd;rw[Nat.div_lt_iff_lt_mul (Nat.two_pow_pos k)];exact Nat.mod_lt _ (qpd k)
theorem qkB (c:Nat→Nat) (r k n:Nat):qdm (qb c r k) n:=fun i _=>by
 have:=qth c r k i;unfold qb;omega
theorem qhU (c:Nat→Nat) (r k i:Nat) (hc:c (r+i) - 48<10):num c (r+(i+1))%(10*2^k)=10*(num c (r+i)%(10*2^k)%2^k)+(c (r+i) - 48):=by
 show(10*num c (r+i)+(c (r+i) - 48))%(10*2^k)=_;generalize c (r+i) - 48=d at*;generalize num c (r+i)=x;rw[Nat.mod_mul_left_mod];rw[Nat.mod_mul];rw[Nat.mul_add_mod,Nat.mod_eq_of_lt hc];rw[Nat.mul_add_div (by decide),Nat.div_eq_of_lt hc,Nat.add_zero];omega
theorem qnk (c:Nat→Nat) (r k i:Nat) (hc:c (r+i) - 48<10):num c (r+(i+1))/(10*2^k)=10*(num c (r+i)/(10*2^k))+qd c r k i:=by
 show(10*num c (r+i)+(c (r+i) - 48))/(10*2^k)=_;unfold qd;generalize c (r+i) - 48=d at*;generalize num c (r+i)=x;rw[←Nat.div_div_eq_div_mul,Nat.mul_add_div (by decide),Nat.div_eq_of_lt hc,Nat.add_zero];have hp:0<2^k:=Nat.two_pow_pos k;have e1:x=10*2^k*(x/(10*2^k))+x%(10*2^k):=(Nat.div_add_mod _ _).symm;generalize x/(10*2^k)=q at*;generalize x%(10*2^k)=m at*;rw[e1,show 10*2^k*q=2^k*(10*q) by rw[Nat.mul_comm 10,Nat.mul_assoc],Nat.mul_add_div hp]
theorem qol (c:Nat→Nat) (r k:Nat) (h0:num c r<10*2^k) (hc: ∀i,c i - 48<10): ∀i,num (qb c r k) i=num c (r+i)/(10*2^k)
 |0=>by show 0=num c r/_;rw[Nat.div_eq_of_lt h0]
 |i+1=>by
  show 10*num (qb c r k) i+(48+qd c r k i - 48)=_;rw[qol c r k h0 hc i,qnk c r k i (hc _)];omega
def qt (c:Nat→Nat) (r k i:Nat):Bool:=decide (num (qb c r k) (min i 800)*10^(i - min i 800)≠num (qb c r k) i)
theorem qlW (c:Nat→Nat) (r k i:Nat) (h:i≤800):qt c r k i=false:=by
 unfold qt;rw[Nat.min_eq_left h,Nat.sub_self,Nat.pow_zero,Nat.mul_one];exact dF (fun h=>h rfl)
theorem qkz (c:Nat→Nat) (r k i:Nat) (h:800≤i):qt c r k (i+1)=(qt c r k i||decide (0<qd c r k i)):=by
 unfold qt;rw[Nat.min_eq_right h,Nat.min_eq_right (by omega)];have e:i+1 - 800=(i - 800)+1:=by omega
 have h1:=qa7 (qb c r k) 800 (i - 800);rw[show 800+(i - 800)=i by omega] at h1;rw[e,Nat.pow_succ,←Nat.mul_assoc,←Bool.decide_or];show decide (_≠10*num (qb c r k) i+(qb c r k i - 48))=_;unfold qb at h1⊢;generalize num (fun i=>48+qd c r k i) 800*10^(i - 800)=x at*;apply decide_eq_decide.2;omega
theorem qoA (c:Nat→Nat) (r k i:Nat) (h:800≤i) (h0:qd c r k i=0):qt c r k (i+1)=qt c r k i:=by
 rw[qkz c r k i h,h0];simp
theorem qq6 (c:Nat→Nat) (r k i:Nat) (h:800≤i) (h0:0<qd c r k i):qt c r k (i+1)=true:=by
 rw[qkz c r k i h,dT h0,Bool.or_true]
theorem qo2 (c:Nat→Nat) (r k nd:Nat) (hz: ∀i,nd≤i→c i=48) (i0:Nat) (hi0:nd≤r+i0) (j:Nat) (hj:k<j):num c (r+(i0+j))%(10*2^k)=0:=by
 obtain⟨m,rfl⟩: ∃m,j=(k+1)+m:=⟨j - (k+1),by omega⟩;rw[show r+(i0+(k+1+m))=r+i0+(k+1+m) by omega,qcM c _ _ (fun i h1 _=>hz i (by omega)),Nat.pow_add,Nat.pow_succ,show 10^k=2^k*5^k by rw[←Nat.mul_pow]]
 have e:num c (r+i0)*(2^k*5^k*10*10^m)=10*2^k*(num c (r+i0)*5^k*10^m):=by
  simp only[Nat.mul_assoc,Nat.mul_left_comm,Nat.mul_comm]
 rw[e,Nat.mul_mod_right]
theorem p10 (n:Nat):0<10^n:=Nat.pow_pos (by decide)
theorem qqa {a b:Nat} (h:b≤a):10^a=10^b*10^(a - b):=by rw[←Nat.pow_add];congr 1;omega
def dec (g:Nat→Nat) (nd e:Nat):Nat:=num g nd*10^(e - nd)
def Cut (Z Y:Nat) (tr tr':Bool):Prop:=
 (Y=Z∧tr'=tr)∨(tr'=true∧Y<Z∧ ∃Q e,Y=Q*10^e∧U10 799≤Q∧Z<(Q+1)*10^e)
theorem qh2 (g:Nat→Nat) (n m e:Nat) (hn:n≤m) (hm:m≤e) (h: ∀i,n≤i→i<m→g i=48):dec g m e=dec g n e:=by
 unfold dec;obtain⟨k,rfl⟩: ∃k,m=n+k:=⟨m - n,by omega⟩;rw[qcM g n k h,Nat.mul_assoc,←Nat.pow_add];congr 2;omega
theorem nT (g:Nat→Nat) (n:Nat) (hn:0<n) (h0:48<g 0):U10 (n - 1)≤num g n:=qeb hn h0
theorem qtQ (g:Nat→Nat) (h0:48<g 0):U10 799≤num g 800:=nT g 800 (by decide) h0
theorem qnU (g:Nat→Nat) (F m n e:Nat) (hF:m≤n) (hn:n≤e) (hm:m=n∨m=800) (tr t:Bool) (h1:num g m*10^(n - m)≤F) (h2:F<(num g m+1)*10^(n - m)) (h3:m=n→t=false) (h4:t=decide (num g m*10^(n - m)≠F)) (h0:48<g 0):
 Cut (F*10^(e - n)) (dec g m e) tr (tr||t):=by
 have e1:dec g m e=num g m*10^(n - m)*10^(e - n):=by
  unfold dec;rw[Nat.mul_assoc,←Nat.pow_add];congr 2;omega
 by_cases hq:num g m*10^(n - m)=F
 ·rw[h4,dF (fun h=>h hq),Bool.or_false];exact .inl ⟨by rw[e1,hq],rfl⟩
 ·rw[h4,dT hq,Bool.or_true]
  have m8:m=800:=hm.resolve_left fun h=>by
   rw[h3 h] at h4;exact absurd hq (of_decide_eq_false h4.symm)
  refine .inr ⟨rfl,?_,num g m,e - m,rfl,?_,?_⟩
  ·rw[e1];exact Nat.mul_lt_mul_of_pos_right (Nat.lt_of_le_of_ne h1 hq) (p10 _)
  ·rw[m8];exact qtQ g h0
  ·have e2:(num g m+1)*10^(e - m)=(num g m+1)*10^(n - m)*10^(e - n):=by
    rw[Nat.mul_assoc,←Nat.pow_add];congr 2;omega
   rw[e2];exact Nat.mul_lt_mul_of_pos_right h2 (p10 _)
theorem qoL (g q:Nat→Nat) (nd e k r R:Nat) (tr:Bool) (hd:qdm g nd) (h1:2^k≤num (ext g nd) r) (h2:num (ext g nd) r<10*2^k) (hR:nd≤r+R) (hz:num (ext g nd) (r+R)%(10*2^k)=0) (hRe:r+R≤e) (hR0:1≤R)
 (hq: ∀i,i<min R 800→q i=qb (ext g nd) r k i):
 ∃Z,dec g nd e=Z*2^k∧Cut Z (dec q (min R 800) (e+1 - r)) tr (tr||qt (ext g nd) r k R):=by
 have hc: ∀i,ext g nd i - 48<10:=fun i=>by have:=qbP hd (i+1) i (by omega);omega
 have n1: ∀i,num (qb (ext g nd) r k) i=num (ext g nd) (r+i)/(10*2^k):=qol _ r k h2 hc;have n2:num q (min R 800)=num (qb (ext g nd) r k) (min R 800):=qbh _ hq
 have q0:48<q 0:=by
  rw[hq 0 (by omega)];unfold qb qd;rw[Nat.add_zero,Nat.mod_eq_of_lt h2];have:=Nat.div_pos h1 (Nat.two_pow_pos k);omega
 have eR:num (ext g nd) (r+R)=num g nd*10^(r+R - nd):=by
  rw[←qhf];congr 1;omega
 refine⟨num (qb (ext g nd) r k) R*10^(e+1 - r - R),?_,?_⟩
 ·have a1:dec g nd e=num (ext g nd) (r+R)*10^(e - (r+R)):=by
   rw[eR];unfold dec;rw[Nat.mul_assoc,←Nat.pow_add];congr 2;omega
  have a2:num (ext g nd) (r+R)=num (qb (ext g nd) r k) R*(10*2^k):=by
   rw[n1 R];exact(Nat.div_mul_cancel (Nat.dvd_of_mod_eq_zero hz)).symm
  rw[a1,a2,show e+1 - r - R=(e - (r+R))+1 by omega,Nat.pow_succ];simp only[Nat.mul_assoc,Nat.mul_left_comm,Nat.mul_comm]
 ·have hle:=qa7 (qb (ext g nd) r k) (min R 800) (R - min R 800);have hlt:=qc0 (qkB (ext g nd) r k (min R 800+(R - min R 800)));rw[show min R 800+(R - min R 800)=R by omega] at hle hlt;rw[←n2] at hle hlt;refine qnU q _ (min R 800) R (e+1 - r) (by omega) (by omega) ?_ tr _ hle hlt ?_ ?_ q0
  ·by_cases h:R≤800
   ·exact .inl (Nat.min_eq_left h)
   ·exact .inr (Nat.min_eq_right (by omega))
  ·intro h;exact qlW _ _ _ _ (by omega)
  ·unfold qt;rw[n2]
def lb (T W i:Nat):Nat:=48+T/10^(W - 1 - i)%10
theorem qn0 (T W:Nat) (hT:T<10^W): ∀i,i≤W→num (lb T W) i=T/10^(W - i)
 |0,_=>by show 0=_;rw[Nat.sub_zero,Nat.div_eq_of_lt hT]
 |i+1,h=>by
  show 10*num (lb T W) i+(48+T/10^(W - 1 - i)%10 - 48)=_;rw[qn0 T W hT i (by omega),show W - i=(W - (i+1))+1 by omega,show W - 1 - i=W - (i+1) by omega,Nat.pow_succ,←Nat.div_div_eq_div_mul];omega
theorem qoG (T W n:Nat):qdm (lb T W) n:=fun i _=>by unfold lb;omega
def lt8 (T W j:Nat):Bool:=decide (T%10^(min j (W - 800))≠0)
theorem qnz (T W:Nat):lt8 T W 0=false:=by unfold lt8;rw[Nat.zero_min,Nat.pow_zero,Nat.mod_one];rfl
theorem qob (T W j:Nat) (h:W - 800≤j):lt8 T W (j+1)=lt8 T W j:=by unfold lt8;rw[Nat.min_eq_right h,Nat.min_eq_right (by omega)]
theorem qpO (T W j:Nat) (h:j<W - 800):lt8 T W (j+1)=(lt8 T W j||decide (T/10^j%10≠0)):=by
 unfold lt8;rw[Nat.min_eq_left (Nat.le_of_lt h),Nat.min_eq_left (by omega),←Bool.decide_or];apply decide_eq_decide.2;rw[Nat.pow_succ,Nat.mod_mul];have:=p10 j;constructor
 ·intro h
  by_cases h1:T%10^j=0
  ·refine .inr fun h2=>h ?_
   rw[h1,h2];rfl
  ·exact .inl h1
 ·intro h he;have h1:T%10^j=0:=by omega
  have h2:10^j*(T/10^j%10)=0:=by omega
  rcases Nat.mul_eq_zero.1 h2 with h3|h3
  ·omega
  ·exact h.elim (fun h=>h h1) fun h=>h h3
theorem qps (g q:Nat→Nat) (nd e k W:Nat) (tr:Bool) (h1:10^(W - 1)≤num g nd*2^k) (h2:num g nd*2^k<10^W) (hW0:1≤W) (hnW:nd≤W) (hne:nd≤e)
 (hq: ∀i,i<min W 800→q i=lb (num g nd*2^k) W i):
 Cut (dec g nd e*2^k) (dec q (min W 800) (e+W - nd)) tr (tr||lt8 (num g nd*2^k) W W):=by
 have e0:dec g nd e*2^k=num g nd*2^k*10^(e+W - nd - W):=by
  unfold dec;rw[Nat.mul_right_comm];congr 2;omega
 rw[e0];generalize num g nd*2^k=T at*;have n2:num q (min W 800)=T/10^(W - min W 800):=by rw[qbh _ hq];exact qn0 T W h2 _ (by omega)
 have q0:48<q 0:=by
  rw[hq 0 (by omega)];unfold lb;rw[Nat.sub_zero];have a1:1≤T/10^(W - 1):=(Nat.le_div_iff_mul_le (p10 _)).2 (by omega)
  have a2:T/10^(W - 1)<10:=by
   rw[Nat.div_lt_iff_lt_mul (p10 _),Nat.mul_comm,←Nat.pow_succ];rwa[show(W - 1).succ=W by omega]
  omega
 have em:T=T/10^(W - min W 800)*10^(W - min W 800)+T%10^(W - min W 800):=by rw[Nat.mul_comm];exact(Nat.div_add_mod _ _).symm
 have hml:T%10^(W - min W 800)<10^(W - min W 800):=Nat.mod_lt _ (p10 _);refine qnU q T (min W 800) W (e+W - nd) (by omega) (by omega) (by omega) tr _ ?_ ?_ ?_ ?_ q0
 ·rw[n2];omega
 ·rw[n2,Nat.add_mul,Nat.one_mul];omega
 ·intro h;unfold lt8;rw[show min W (W - 800)=0 by omega,Nat.pow_zero,Nat.mod_one];rfl
 ·rw[n2];unfold lt8;rw[show min W (W - 800)=W - min W 800 by omega];apply decide_eq_decide.2;omega
theorem qf2 {c s:Nat→Nat} {i n:Nat} (hi:i<n) (he: ∀j,j<i→c j=s j) (hl:c i<s i) (hc:qdm c n) (hs:qdm s n):num c n<num s n:=by
 obtain⟨m,rfl⟩: ∃m,n=i+1+m:=⟨n - (i+1),by omega⟩;refine Nat.lt_of_lt_of_le (qc0 hc) (Nat.le_trans (Nat.mul_le_mul_right _ ?_) (qa7 s (i+1) m));show 10*num c i+(c i - 48)+1≤10*num s i+(s i - 48);rw[qbh i he];have:=(hc i hi).1;omega
def Pfx (g:Nat→Nat) (nd:Nat) (s:Nat→Nat) (L:Nat):Prop:= ∃i,i<L∧(∀j,j<i→j<nd∧g j=s j)∧(nd≤i∨g i<s i)
def Nfx (g:Nat→Nat) (nd:Nat) (s:Nat→Nat) (L:Nat):Prop:=(∀j,j<L→j<nd∧g j=s j)∨ ∃i,i<L∧i<nd∧(∀j,j<i→g j=s j)∧s i<g i
theorem qp6 {g s:Nat→Nat} {nd L:Nat} (hg:qdm g nd) (hs:qdm s L) (h5:L=0∨48<s (L - 1)) (h:Pfx g nd s L):num (ext g nd) L<num s L:=by
 obtain⟨i,hi,he,hl⟩:=h
 have he': ∀j,j<i→ext g nd j=s j:=fun j hj=>by
  obtain⟨a,b⟩:=he j hj;unfold ext;rw[if_pos a,b]
 by_cases hin:i<nd
 ·refine qf2 hi he' ?_ (qbP hg L) hs;unfold ext;rw[if_pos hin];omega
 · -- the digits end ahead of the string's
   rcases h5 with h5|h5
   ·omega
   have ha: ∀j,i≤j→ext g nd j=48:=fun j hj=>by unfold ext;rw[if_neg (by omega)]
   obtain⟨k,rfl⟩: ∃k,L=i+k+1:=⟨L - i - 1,by omega⟩;show 10*num (ext g nd) (i+k)+(ext g nd (i+k) - 48)<10*num s (i+k)+(s (i+k) - 48);rw[ha _ (by omega),qcM (ext g nd) i k (fun j h1 _=>ha j h1),qbh i he'];have:=qa7 s i k;rw[Nat.add_sub_cancel] at h5;generalize num s i*10^k=x at*;omega
theorem qqv {g s:Nat→Nat} {nd L:Nat} (hg:qdm g nd) (hs:qdm s L) (h:Nfx g nd s L):num s L≤num (ext g nd) L:=by
 rcases h with h|⟨i,hi,hin,he,hl⟩
 ·rw[qbh L (h:=ext g nd)]
  ·exact Nat.le_refl _
  ·intro j hj;obtain⟨a,b⟩:=h j hj;unfold ext;rw[if_pos a,b]
 ·refine Nat.le_of_lt (qf2 hi ?_ ?_ hs (qbP hg L))
  ·intro j hj;unfold ext;rw[if_pos (by omega),he j hj]
  ·unfold ext;rw[if_pos hin];exact hl
theorem qpc {g s:Nat→Nat} {nd L k dl:Nat} (hg:qdm g nd) (hn:0<nd) (h0:48<g 0) (hs:num s L=5^k) (hL:L+dl=k+1) (hd:1≤dl) (hlo:10^(dl - 1)≤2^k) (hhi:2^k<10^dl):
 (num s L≤num (ext g nd) L→10^(nd+dl - 1)≤num g nd*2^k∧num g nd*2^k<10^(nd+dl))∧
 (num (ext g nd) L<num s L→10^(nd+dl - 1 - 1)≤num g nd*2^k∧num g nd*2^k<10^(nd+dl - 1)):=by
 obtain⟨n,hnn⟩: ∃n,n=max nd L:=⟨_,rfl⟩
 have e1:num (ext g nd) n=num g nd*10^(n - nd):=by
  rw[←qhf];congr 1;omega
 have h1:=qa7 (ext g nd) L (n - L);have h2:=qc0 (qbP hg (L+(n - L)));rw[show L+(n - L)=n by omega,e1] at h1 h2;have hP1:10^(nd - 1)≤num g nd:=qeb hn h0;have hP2:num g nd<10^nd:=qet nd hg;have e10: ∀x,10^x=2^x*5^x:=fun x=>by rw[←Nat.mul_pow]
 have ex:5^k*10^(n - L)*2^k=10^(nd+dl - 1)*10^(n - nd):=by
  rw[Nat.mul_right_comm,Nat.mul_comm (5^k),←e10,←Nat.pow_add,←Nat.pow_add];congr 1;omega
 rw[hs];constructor
 ·intro h;constructor
  ·refine Nat.le_of_mul_le_mul_right ?_ (p10 (n - nd));rw[←ex,Nat.mul_right_comm (num g nd)];exact Nat.mul_le_mul_right _ (Nat.le_trans (Nat.mul_le_mul_right _ h) h1)
  ·rw[Nat.pow_add];exact Nat.mul_lt_mul_of_lt_of_lt hP2 hhi
 ·intro h;constructor
  ·rw[show nd+dl - 1 - 1=(nd - 1)+(dl - 1) by omega,Nat.pow_add];exact Nat.mul_le_mul hP1 hlo
  ·refine Nat.lt_of_mul_lt_mul_right (a:=10^(n - nd)) ?_;rw[←ex,Nat.mul_right_comm (num g nd)];refine Nat.mul_lt_mul_of_pos_right ?_ (Nat.two_pow_pos k);exact Nat.lt_of_lt_of_le h2 (Nat.mul_le_mul_right _ h)
theorem qlQ (g:Nat→Nat) (T P k r j n:Nat) (hT:n+num g (r+1)*P=T/10^j) (hP:P=2^k):(n+(g r - 48)*P)%10=T/10^j%10∧(n+(g r - 48)*P)/10+num g r*P=T/10^(j+1):=by
 subst hP
 have e:num g (r+1)*2^k=10*(num g r*2^k)+(g r - 48)*2^k:=by
  show(10*num g r+(g r - 48))*2^k=_;rw[Nat.add_mul,Nat.mul_assoc]
 rw[Nat.pow_succ,←Nat.div_div_eq_div_mul,←hT,e];generalize num g r*2^k=x;generalize (g r - 48)*2^k=y;omega
theorem qfT (n:Nat):0<U2 n:=by unfold U2;exact Nat.two_pow_pos n
theorem qpN (n:Nat):2^n=U2 n:=rfl
def GG:Nat:=U5 1100*U10 900
theorem qdc (n:Nat):0<U10 n:=by unfold U10;exact Nat.pow_pos (by decide)
theorem qtt:0<GG:=Nat.mul_pos (qn5 _) (qdc _)
theorem qbu (a b:Nat):U10 a*U10 b=U10 (a+b):=by unfold U10;exact(Nat.pow_add 10 a b).symm
theorem qq7 (a b:Nat):U5 a*U5 b=U5 (a+b):=by unfold U5;exact(Nat.pow_add 5 a b).symm
theorem qsl (n i:Nat) (h:i≤n):U5 n=U5 (n - i)*U5 i:=by rw[qq7];congr 1;omega
theorem qhB (n i:Nat) (h:i≤n):U2 n=U2 (n - i)*U2 i:=by rw[qbX];congr 1;omega
theorem qin:U2 1100*GG=U10 2000:=by
 unfold GG;rw[←Nat.mul_assoc,←qoq,qbu]
theorem qrP:U2 55*U5 1100≤U10 800:=by unfold U2 U5 U10;decide+kernel
theorem qrf:U2 55*U2 1600≤U10 800:=by unfold U2 U10;decide+kernel
theorem qnX (a i:Nat) (ha:a<U2 55) (hi:i≤2700): ∃A e,a*U2 i*GG=A*10^e∧A<U10 800:=by
 by_cases h:i≤1100
 ·refine⟨a*U5 (1100 - i),i+900,?_,?_⟩
  ·unfold GG;rw[qbr,←qbu,qoq i,qsl 1100 i h];simp only[Nat.mul_assoc,Nat.mul_left_comm,Nat.mul_comm]
  ·refine Nat.lt_of_lt_of_le (Nat.mul_lt_mul_of_lt_of_le ha (?_:U5 (1100 - i)≤U5 1100) ?_) qrP
   ·exact qoI (by omega)
   ·exact qn5 _
 ·obtain⟨n,hn⟩: ∃n,n=2000:=⟨_,rfl⟩;refine⟨a*U2 (i - 1100),n,?_,?_⟩
  ·rw[qbr,hn,←qin,qhB i 1100 (by omega)];simp only[Nat.mul_assoc]
  ·refine Nat.lt_of_lt_of_le (Nat.mul_lt_mul_of_lt_of_le ha (?_:U2 (i - 1100)≤U2 1600) (qfT _)) qrf;exact qc8 (by omega)
theorem qd6 {Z Y:Nat} {tr tr':Bool} (h:Cut Z Y tr tr'):Y≤Z:=by
 rcases h with ⟨rfl,_⟩|⟨_,h,_⟩
 ·exact Nat.le_refl _
 ·exact Nat.le_of_lt h
theorem qfl {Z Y A e:Nat} {tr tr':Bool} (h:Cut Z Y tr tr') (hA:A<U10 800) (hM:A*10^e≤Z):A*10^e≤Y:=by
 rcases h with ⟨rfl,_⟩|⟨_,_,Q,f,rfl,hQ,hZ⟩
 ·exact hM
 ·by_cases hf:f≤e
  ·have e1:A*10^e=A*10^(e - f)*10^f:=by rw[Nat.mul_assoc,←Nat.pow_add];congr 2;omega
   rw[e1] at hM⊢;have h2:=Nat.lt_of_mul_lt_mul_right (Nat.lt_of_le_of_lt hM hZ);exact Nat.mul_le_mul_right _ (Nat.le_of_lt_succ h2)
  ·have h1:A*10^e≤U10 800*10^e:=Nat.mul_le_mul_right _ (Nat.le_of_lt hA)
   have h2:U10 800*10^e≤U10 799*10^f:=by
    rw[qbr,qbr,qbu,qbu];exact qa4 (by omega)
   exact Nat.le_trans h1 (Nat.le_trans h2 (Nat.mul_le_mul_right _ hQ))
structure Inv (X0 p q X:Nat) (tr:Bool) (lo:Nat):Prop where
 le:X*U2 q≤X0*U2 p
 eq:tr=false→X*U2 q=X0*U2 p
 lt:tr=true→X*U2 q<X0*U2 p
 mid: ∀a i,a<U2 55→lo≤i→i+q≤2700→a*U2 i*GG*U2 q≤X0*U2 p→a*U2 i*GG≤X
theorem qk9 (X:Nat):Inv X 0 0 X false 0:=
 ⟨Nat.le_refl _,fun _=>rfl,fun h=>(by cases h),fun a i _ _ _ h=>Nat.le_of_mul_le_mul_right h (qfT 0)⟩
theorem qhK {X0 p q X lo k X':Nat} {tr tr':Bool} (H:Inv X0 p q X tr lo) (hc:Cut (X*2^k) X' tr tr'):Inv X0 (p+k) q X' tr' (lo+k):=by
 rw[qpN] at hc;have e0:X0*U2 (p+k)=X0*U2 p*U2 k:=by rw[←qbX,Nat.mul_assoc]
 have e1:X*U2 k*U2 q=X*U2 q*U2 k:=Nat.mul_right_comm _ _ _;refine⟨?_,?_,?_,?_⟩
 ·refine Nat.le_trans (Nat.mul_le_mul_right _ (qd6 hc)) ?_;rw[e0,e1];exact Nat.mul_le_mul_right _ H.le
 ·intro ht;rcases hc with ⟨rfl,h⟩|⟨h,_⟩
  ·rw[e0,e1,H.eq (h▸ht)]
  ·rw[h] at ht;cases ht
 ·intro ht;rcases hc with ⟨rfl,h⟩|⟨_,h,_⟩
  ·rw[e0,e1];exact Nat.mul_lt_mul_of_pos_right (H.lt (h▸ht)) (qfT k)
  ·refine Nat.lt_of_lt_of_le (Nat.mul_lt_mul_of_pos_right h (qfT q)) ?_;rw[e0,e1];exact Nat.mul_le_mul_right _ H.le
 ·intro a i ha hi hi2 hm;obtain⟨j,rfl⟩: ∃j,i=j+k:=⟨i - k,by omega⟩;have e2:a*U2 (j+k)*GG=a*U2 j*GG*U2 k:=by rw[←qbX];simp only[Nat.mul_left_comm,Nat.mul_comm]
  have h1:a*U2 j*GG*U2 q≤X0*U2 p:=by
   refine Nat.le_of_mul_le_mul_right ?_ (qfT k);rw[←e0,Nat.mul_right_comm,←e2];exact hm
  have h2:=H.mid a j ha (by omega) (by omega) h1;obtain⟨A,e,e3,hA⟩:=qnX a (j+k) ha (by omega);rw[e3];refine qfl hc hA ?_;rw[←e3,e2];exact Nat.mul_le_mul_right _ h2
theorem qcC {X0 p q X lo lo' k Z X':Nat} {tr tr':Bool} (H:Inv X0 p q X tr lo) (hZ:X=Z*2^k) (hc:Cut Z X' tr tr') (hlo:lo≤lo'+k):Inv X0 p (q+k) X' tr' lo':=by
 rw[qpN] at hZ;have e1: ∀Y,Y*U2 (q+k)=Y*U2 k*U2 q:=fun Y=>by rw[Nat.add_comm,←qbX,Nat.mul_assoc]
 refine⟨?_,?_,?_,?_⟩
 ·refine Nat.le_trans (Nat.mul_le_mul_right _ (qd6 hc)) ?_;rw[e1,←hZ];exact H.le
 ·intro ht;rcases hc with ⟨rfl,h⟩|⟨h,_⟩
  ·rw[e1,←hZ,H.eq (h▸ht)]
  ·rw[h] at ht;cases ht
 ·intro ht;rcases hc with ⟨rfl,h⟩|⟨_,h,_⟩
  ·rw[e1,←hZ];exact H.lt (h▸ht)
  ·refine Nat.lt_of_lt_of_le (Nat.mul_lt_mul_of_pos_right h (qfT _)) ?_;rw[e1,←hZ];exact H.le
 ·intro a i ha hi hi2 hm;have e2:a*U2 (i+k)*GG=a*U2 i*GG*U2 k:=by rw[←qbX];simp only[Nat.mul_left_comm,Nat.mul_comm]
  have h1:a*U2 (i+k)*GG*U2 q≤X0*U2 p:=by rw[e2,←e1];exact hm
  have h2:=H.mid a (i+k) ha (by omega) (by omega) h1;rw[e2,hZ] at h2;obtain⟨A,e,e3,hA⟩:=qnX a i ha (by omega);have h3:=Nat.le_of_mul_le_mul_right h2 (qfT k);rw[e3] at h3⊢;exact qfl hc hA h3
theorem qfM (e m:Nat) (he:1≤e) (hm:m<9007199254740992) (h:e=1∨4503599627370496≤m):M ((e - 1)*4503599627370496+m)=(2*m+1)*U2 (e - 1):=by
 unfold M fr ex U2
 by_cases h1:(e - 1)*4503599627370496+m<4503599627370496
 ·rw[if_pos h1,if_pos h1];have:e=1:=by omega
  subst this;rw[show(1 - 1)*4503599627370496+m=m by omega]
 ·rw[if_neg h1,if_neg h1];have a1:((e - 1)*4503599627370496+m)%4503599627370496=m - 4503599627370496:=by omega
  have a2:((e - 1)*4503599627370496+m)/4503599627370496=e:=by omega
  rw[a1,a2,show 4503599627370496+(m - 4503599627370496)=m by omega]
def qfC (X:Nat) (tr:Bool):Nat:=
 if U10 2000<2*(X%U10 2000)∨(2*(X%U10 2000)=U10 2000∧(tr=true∨X/U10 2000%2=1)) then X/U10 2000+1 else X/U10 2000
def HH:Nat:=U2 1099*GG
theorem qrp (n g:Nat) (h:1≤n):U2 n*g=2*(U2 (n - 1)*g):=by
 rw[qhB n 1 h,Nat.mul_comm (U2 (n - 1)),Nat.mul_assoc];rfl
theorem qnm:U10 2000=2*HH:=by
 have h:=qrp 1100 GG (by decide);rw[show 1100 - 1=1099 from rfl] at h;rw[←qin,h];unfold HH;generalize U2 1099*GG=x;exact Eq.refl _
theorem qtT:0<HH:=Nat.mul_pos (qfT _) qtt
theorem qmK {X0 p q X lo:Nat} {tr:Bool} (H:Inv X0 p q X tr lo) (hlo:lo≤1099) (hq:q≤1600) (a:Nat) (ha:a<U2 55) (h:a*HH*U2 q≤X0*U2 p):a*HH≤X:=by
 unfold HH at h⊢;rw[←Nat.mul_assoc] at h⊢;exact H.mid a 1099 ha hlo (by omega) h
theorem qcG (X0 p q e b:Nat) (he:p+e=q+1075) (he1:1≤e):
 (b*U2 (e - 1)*U10 2000≤X0*U2 1075↔b*HH*U2 q≤X0*U2 p)∧(X0*U2 1075≤b*U2 (e - 1)*U10 2000↔X0*U2 p≤b*HH*U2 q):=by
 have e1:b*U2 (e - 1)*U10 2000*U2 p=b*HH*U2 q*U2 1075:=by
  rw[qnm]
  have:U2 (e - 1)*U2 p*2=U2 q*U2 1075:=by
   rw[qbX,qbX,show(2:Nat)=U2 1 from rfl,qbX]
   congr 1;omega
  calc b*U2 (e - 1)*(2*HH)*U2 p=b*HH*(U2 (e - 1)*U2 p*2):=by simp only[Nat.mul_assoc,Nat.mul_left_comm,Nat.mul_comm]
   _=b*HH*U2 q*U2 1075:=by rw[this];simp only[Nat.mul_assoc]
 have e2:X0*U2 1075*U2 p=X0*U2 p*U2 1075:=Nat.mul_right_comm _ _ _;constructor
 ·rw[←Nat.mul_le_mul_right_iff (qfT p),e1,e2,Nat.mul_le_mul_right_iff (qfT 1075)]
 ·rw[←Nat.mul_le_mul_right_iff (qfT p),e1,e2,Nat.mul_le_mul_right_iff (qfT 1075)]
theorem t55:U2 55=36028797018963968:=by unfold U2;decide+kernel
theorem qma {X0 p q X lo e:Nat} {tr:Bool} (H:Inv X0 p q X tr lo) (hlo:lo≤1099) (hq:q≤1600) (he:p+e=q+1075) (he1:1≤e) (he2:e≤2046)
 (hhi:X<9007199254740992*U10 2000) (hl:1<e→4503599627370496*U10 2000≤X):
 qbm (X0*U2 1075) (U10 2000) ((e - 1)*4503599627370496+qfC X tr):=by
 have hH:=qtT;have hm: ∀a,a<36028797018963968→a*HH*U2 q≤X0*U2 p→a*HH≤X:=fun a ha h=>qmK H hlo hq a (by rw[t55];exact ha) h
 have hX1:=H.le;have hX2:=H.eq;have hX3:=H.lt;obtain⟨n,hn⟩: ∃n,n=X/U10 2000:=⟨_,rfl⟩;obtain⟨f,hf⟩: ∃f,f=X%U10 2000:=⟨_,rfl⟩;obtain⟨m,hmd⟩: ∃m,m=qfC X tr:=⟨_,rfl⟩
 have hXn:X=2*n*HH+f:=by
  rw[hn,hf,Nat.mul_comm 2,Nat.mul_assoc,←qnm,Nat.mul_comm];exact(Nat.div_add_mod _ _).symm
 have hfl:f<2*HH:=by rw[hf,qnm];exact Nat.mod_lt _ (by omega)
 have hrd:m=if HH<f∨(f=HH∧(tr=true∨n%2=1)) then n+1 else n:=by
  rw[hmd];unfold qfC;rw[←hn,←hf,qnm];have a1:(2*HH<2*f)=(HH<f):=propext ⟨fun h=>by omega,fun h=>by omega⟩;have a2:(2*f=2*HH)=(f=HH):=propext ⟨fun h=>by omega,fun h=>by omega⟩;simp only[a1,a2]
 rw[←hmd]
 -- multiples of the half unit
 have hmul: ∀a b,a*HH≤b*HH+f→f<2*HH→a≤b+1:=fun a b h1 h2=>by
  have:a*HH<(b+2)*HH:=by rw[Nat.add_mul];omega
  have:=Nat.lt_of_mul_lt_mul_right this;omega
 have hn53:n<9007199254740992:=by
  rw[hn];exact(Nat.div_lt_iff_lt_mul (qdc _)).2 hhi
 have hn52:1<e→4503599627370496≤n:=fun h=>by rw[hn];exact(Nat.le_div_iff_mul_le (qdc _)).2 (hl h)
 have hmn:m=n∨m=n+1:=by rw[hrd];split<;>omega
 have hup:X0*U2 p≤(2*m+1)*HH*U2 q∧(X0*U2 p=(2*m+1)*HH*U2 q→m%2=0):=by
  rcases Nat.lt_or_ge (X0*U2 p) ((2*m+1)*HH*U2 q)with h|h
  ·exact⟨Nat.le_of_lt h,fun h2=>by omega⟩
  ·have h1:=hm (2*m+1) (by omega) h;have h2:=hmul _ _ (hXn▸h1) hfl;have h3:m=n:=by omega
   have h4:HH≤f:=by rw[h3,hXn,Nat.add_mul,Nat.one_mul] at h1;omega
   rw[h3] at hrd;have h5: ¬(HH<f∨(f=HH∧(tr=true∨n%2=1))):=fun hc=>by rw[if_pos hc] at hrd;omega
   have h6:f=HH:=by omega
   have h7:tr=false:=by
    cases tr with
    |false=>rfl
    |true=>exact absurd (.inr ⟨h6,.inl rfl⟩) h5
   have h8: ¬n%2=1:=fun hc=>h5 (.inr ⟨h6,.inr hc⟩)
   have h9:=hX2 h7;rw[hXn,h6,show 2*n*HH+HH=(2*m+1)*HH by rw[h3,Nat.add_mul,Nat.one_mul]] at h9;exact⟨Nat.le_of_eq h9.symm,fun _=>by omega⟩
 have hdn:0<m→(2*m - 1)*HH*U2 q≤X0*U2 p∧(X0*U2 p=(2*m - 1)*HH*U2 q→m%2=0):=by
  intro h0;have hT:=qfT q
  by_cases hc:HH<f∨(f=HH∧(tr=true∨n%2=1))
  ·rw[if_pos hc] at hrd;have g1:(2*m - 1)*HH=2*n*HH+HH:=by rw[hrd,show 2*(n+1) - 1=2*n+1 by omega,Nat.add_mul,Nat.one_mul]
   have g2:(2*m - 1)*HH≤X:=by rw[g1,hXn];omega
   refine⟨Nat.le_trans (Nat.mul_le_mul_right _ g2) hX1,fun h=>?_⟩;have g3:X*U2 q≤(2*m - 1)*HH*U2 q:=by rw[←h];exact hX1
   have g4:X≤(2*m - 1)*HH:=Nat.le_of_mul_le_mul_right g3 hT;have g5:f=HH:=by rw[g1,hXn] at g4;omega
   have g6:tr=false:=by
    cases ht:tr with
    |false=>rfl
    |true=>
     have:=hX3 ht;rw[h] at this;have:=Nat.lt_of_mul_lt_mul_right this;omega
   rcases hc with hc|⟨_,hc|hc⟩
   ·omega
   ·rw[g6] at hc;cases hc
   ·omega
  ·rw[if_neg hc] at hrd
   have g1:(2*m - 1)*HH<X:=by
    have:(2*m - 1+1)*HH≤X:=by rw[show 2*m - 1+1=2*n by omega,hXn];omega
    rw[Nat.add_mul,Nat.one_mul] at this;omega
   have g2:(2*m - 1)*HH*U2 q<X0*U2 p:=Nat.lt_of_lt_of_le (Nat.mul_lt_mul_of_pos_right g1 hT) hX1;exact⟨Nat.le_of_lt g2,fun h=>by omega⟩
 refine⟨?_,?_,?_⟩
 ·unfold INF;omega
 ·intro _
  by_cases hm3:m<9007199254740992
  ·rw[qfM e m he1 hm3 (by omega)];obtain⟨_,i2⟩:=qcG X0 p q e (2*m+1) he he1;obtain⟨i1,_⟩:=qcG X0 p q e (2*m+1) he he1;refine⟨i2.2 hup.1,fun h=>?_⟩;have h1:=i1.1 (Nat.le_of_eq h.symm);have h2:=hup.2 (Nat.le_antisymm hup.1 h1);omega
  ·have hm4:m=9007199254740992:=by omega
   have e3:(e - 1)*4503599627370496+m=(e+1 - 1)*4503599627370496+4503599627370496:=by omega
   rw[e3,qfM (e+1) 4503599627370496 (by omega) (by omega) (by omega)];obtain⟨_,i2⟩:=qcG X0 p q e (2*m+1) he he1;have j1:=i2.2 hup.1
   have j2:(2*m+1)*U2 (e - 1)*U10 2000<(2*4503599627370496+1)*U2 (e+1 - 1)*U10 2000:=by
    refine Nat.mul_lt_mul_of_pos_right ?_ (qdc _);rw[qhB (e+1 - 1) 1 (by omega),show e+1 - 1 - 1=e - 1 by omega,Nat.mul_comm (U2 (e - 1)),←Nat.mul_assoc];refine Nat.mul_lt_mul_of_pos_right ?_ (qfT _);rw[hm4];decide
   exact⟨by omega,fun h=>by omega⟩
 ·intro hr0
  by_cases hm0:m=0
  ·exfalso;have: ¬1<e:=fun h=>by have:=hn52 h;omega
   have:e=1:=by omega
   rw[hm0,this] at hr0;omega
  by_cases hm2:e=1∨4503599627370496<m
  ·have e3:(e - 1)*4503599627370496+m - 1=(e - 1)*4503599627370496+(m - 1):=by omega
   rw[e3,qfM e (m - 1) he1 (by omega) (by omega),show 2*(m - 1)+1=2*m - 1 by omega];obtain⟨i1,i2⟩:=qcG X0 p q e (2*m - 1) he he1;obtain⟨j1,j2⟩:=hdn (by omega);refine⟨i1.2 j1,fun h=>?_⟩;have h1:=i2.1 (Nat.le_of_eq h);have h2:=j2 (Nat.le_antisymm h1 j1);omega
  ·have he3:1<e:=by omega
   have hm4:m=4503599627370496:=by have:=hn52 he3;omega
   have hn4:n=4503599627370496:=by have:=hn52 he3;omega
   have e3:(e - 1)*4503599627370496+m - 1=(e - 1 - 1)*4503599627370496+9007199254740991:=by omega
   rw[e3,qfM (e - 1) 9007199254740991 (by omega) (by omega) (by omega)];have g1:2*n*HH*U2 q≤X0*U2 p:=Nat.le_trans (Nat.mul_le_mul_right _ (by rw[hXn];omega)) hX1;obtain⟨i1,_⟩:=qcG X0 p q e (2*n) he he1;have g2:=i1.2 g1
   have g3:(2*9007199254740991+1)*U2 (e - 1 - 1)*U10 2000<2*n*U2 (e - 1)*U10 2000:=by
    refine Nat.mul_lt_mul_of_pos_right ?_ (qdc _);rw[qhB (e - 1) 1 (by omega),Nat.mul_comm (U2 (e - 1 - 1)),←Nat.mul_assoc];refine Nat.mul_lt_mul_of_pos_right ?_ (qfT _);rw[hn4];decide
   exact⟨by omega,fun h=>by omega⟩
theorem qtg:M (INF - 1)=18014398509481983*U2 2045:=by
 rw[show INF - 1=(2046 - 1)*4503599627370496+9007199254740991 by unfold INF;decide,qfM 2046 9007199254740991 (by decide) (by decide) (by decide)]
theorem qhH {N d:Nat} (h:18014398509481983*U2 2045*d≤N):qbm N d INF:=
 ⟨Nat.le_refl _,fun h=>absurd h (Nat.lt_irrefl _),fun _=>⟨by rw[qtg];exact h,fun _=>by unfold INF;decide⟩⟩
theorem qgo {N d:Nat} (h:N≤d):qbm N d 0:=
 ⟨Nat.zero_le _,fun _=>⟨by rw[show M 0=1 from rfl,Nat.one_mul];exact h,fun _=>rfl⟩,fun h=>absurd h (Nat.lt_irrefl _)⟩
end Go.Proofs.YtdeimnnpcfncpaaGreatDoor
