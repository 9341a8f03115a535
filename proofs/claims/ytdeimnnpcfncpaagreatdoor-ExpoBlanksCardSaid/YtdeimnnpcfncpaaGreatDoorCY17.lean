/- Parts of the proof: F32 F26 F27 F28 F29 F30 F31. -/
import Derived.Test.YtdeimnnpcfncpaaGreatDoorCY16
set_option linter.unusedVariables false
set_option linter.unusedSimpArgs false
set_option maxRecDepth 100000
set_option maxHeartbeats 64000000
section
namespace Go.Proofs.YtdeimnnpcfncpaaGreatDoor
open Go
theorem index_one (l:List UInt8) (c:UInt8):Lib.index l [c]=if c∈l then ((l.takeWhile (·!=c)).length:Int) else -1:=by
 induction l with
 |nil=>rfl
 |cons b l ih=>
  rw[Lib.index]
  by_cases h:b=c
  ·subst h;simp[List.isPrefixOf]
  ·have h1:([c]:List UInt8).isPrefixOf (b::l)=false:=by
    simp[List.isPrefixOf];exact fun e=>h e.symm
   have h2:(b !=c)=true:=by simpa using h
   by_cases hm:c∈l
   ·have e2:c∈b::l:=List.mem_cons_of_mem _ hm;simp only[h1,ih,if_pos hm,if_pos e2,Bool.false_eq_true,if_false,List.takeWhile_cons,h2,if_true,List.length_cons];rw[if_neg (by simp)];omega
   ·have e2: ¬c∈b::l:=by rw[List.mem_cons];rintro(e|e);exact h e.symm;exact hm e
    simp only[h1,ih,if_neg hm,if_neg e2,Bool.false_eq_true,if_false];rfl
theorem qko (l:List UInt8) (p:UInt8→Bool) (h: ∀x∈l,p x=true):l.takeWhile p=l:=by
 induction l with
 |nil=>rfl
 |cons b l ih=>
  rw[List.takeWhile_cons,h b (List.mem_cons_self ..),ih (fun x hx=>h x (List.mem_cons_of_mem _ hx))];rfl
theorem qkd (l:List UInt8) (p:UInt8→Bool) (h: ∀x∈l,p x=true):l.dropWhile p=[]:=by
 induction l with
 |nil=>rfl
 |cons b l ih=>
  rw[List.dropWhile_cons,if_pos (h b (List.mem_cons_self ..))];exact ih (fun x hx=>h x (List.mem_cons_of_mem _ hx))
theorem qbx (l:List UInt8) (p:UInt8→Bool):l.drop (l.takeWhile p).length=l.dropWhile p:=by
 induction l with
 |nil=>rfl
 |cons b l ih=>
  simp only[List.takeWhile_cons,List.dropWhile_cons]
  split
  ·simpa using ih
  ·rfl
theorem qby (l:List UInt8) (p:UInt8→Bool):l.take (l.takeWhile p).length=l.takeWhile p:=by
 induction l with
 |nil=>rfl
 |cons b l ih=>
  simp only[List.takeWhile_cons]
  split
  ·simpa using ih
  ·rfl
theorem qgV (l:List UInt8) (c:UInt8):Lib.cut l [c]=(l.takeWhile (·!=c),(l.dropWhile (·!=c)).drop 1,decide (c∈l)):=by
 unfold Lib.cut;rw[index_one]
 by_cases h:c∈l
 ·rw[if_pos h,if_pos (by omega),dT h];simp only[Int.toNat_natCast,List.length_cons,List.length_nil];rw[qby,←List.drop_drop,qbx]
 ·have h1: ∀x∈l,(x !=c)=true:=fun x hx=>by simpa using (fun e=>h (e▸hx):x≠c)
  rw[if_neg h,if_neg (by omega),dF h,qko l _ h1,qkd l _ h1];rfl
theorem qnc (l cs:List UInt8) (h: ∀c∈l,cs.contains c=false):Lib.indexAny l cs= -1:=by
 induction l with
 |nil=>rfl
 |cons c t ih=>
  show(if cs.contains c then 0 else if Lib.indexAny t cs== -1 then -1 else Lib.indexAny t cs+1)= -1;rw[h c (List.mem_cons_self ..),ih (fun x hx=>h x (List.mem_cons_of_mem _ hx))];rfl
theorem qov (W T:List UInt8) (hW: ∀c∈W,isD c=true):Lib.cut (W++46::T) [46]=(W,T,true):=by
 rw[qgV]
 have h1:(W++46::T).takeWhile (·!=46)=W:=by
  rw[List.takeWhile_append_of_pos (fun c hc=>by simpa using qfm (hW c hc))];simp
 have h2:(W++46::T).dropWhile (·!=46)=46::T:=by
  rw[List.dropWhile_append_of_pos (fun c hc=>by simpa using qfm (hW c hc))];simp
 rw[h1,h2];simp
end Go.Proofs.YtdeimnnpcfncpaaGreatDoor
end
section
namespace Go.Proofs.YtdeimnnpcfncpaaGreatDoor
open Go Ieee
theorem qaW {l:List UInt8} (h:qaR l): ∀c∈l,isD c=true:=fun c hc=>(qaB c).2 (h c hc)
theorem qek (k:Nat): ∀F,0<k→F<10^k→(Lib.decDigits F).length≤k:=by
 induction k with
 |zero=>intro F h;omega
 |succ k ih=>
  intro F _ hF;rw[Lib.decDigits]
  split
  ·simp
  ·rename_i h10
   have h1:F/10<10^k:=by rw[Nat.div_lt_iff_lt_mul (by decide)];rw[Nat.pow_succ] at hF;exact hF
   have hk:0<k:=by
    rcases Nat.eq_zero_or_pos k with rfl|hk
    ·simp at hF;omega
    ·exact hk
   have:=ih (F/10) hk h1;simp only[List.length_append,List.length_cons,List.length_nil];omega
theorem qhL (m:Nat):Lib.decDigits m≠[]:=by
 rw[Lib.decDigits];split<;>simp
def sg (n:Int):List UInt8:=if n<0 then [45] else []
theorem qfe (n:Int):Lib.itoa n=sg n++Lib.decDigits n.natAbs:=by
 unfold Lib.itoa sg
 by_cases h:n<0
 ·rw[if_pos h,if_pos h];rfl
 ·rw[if_neg h,if_neg h,show n.toNat=n.natAbs by omega];rfl
theorem qre (n:Int) (m:Nat) (R:List UInt8):sgd (sg n++(Lib.decDigits m++R))=Lib.decDigits m++R∧ngL (sg n++(Lib.decDigits m++R))=decide (n<0):=by
 have hd:=qci m
 cases e:Lib.decDigits m with
 |nil=>exact absurd e (qhL m)
 |cons c t=>
  rw[e] at hd;obtain⟨h1,h2,h3⟩:=qbN hd;unfold sg
  by_cases h:n<0
  ·rw[if_pos h,dT h];exact⟨rfl,rfl⟩
  ·rw[if_neg h,dF h];refine⟨?_,?_⟩
   ·show(if c=43∨c=45 then _ else _)=_;rw[if_neg (by rintro(rfl|rfl)<;>exact absurd h1 (by decide))];rfl
   ·show(some c==some 45)=false;rw[beq_eq_false_iff_ne];intro e;cases e;exact absurd h1 (by decide)
theorem qrl (l:List UInt8) (h: ∀c∈l,okB c=true):qbt l=false:=by
 cases g:qbt l with
 |false=>rfl
 |true=>
  exfalso
  have: ∃c∈l,okB c=false:=by
   unfold qbt at g;simp only[Bool.or_eq_true,beq_iff_eq] at g;rcases g with ((rfl|rfl)|rfl)|rfl
   ·exact⟨73,by simp,rfl⟩
   ·exact⟨73,by simp,rfl⟩
   ·exact⟨73,by simp,rfl⟩
   ·exact⟨78,by simp,rfl⟩
  obtain⟨c,hc,e⟩:=this;rw[h c hc] at e;cases e
def UU:Nat:=2^1074
theorem qsJ:2^1074=UU:=by unfold UU;exact Eq.refl _
theorem qpQ:0<UU:=by unfold UU;decide+kernel
theorem qmx (s:Bool) (r:Nat) (hr:r<INF):kindN (sgw s+r)≠4∧kindN (sgw s+r)≠3:=by
 have hI:INF=9218868437227405312:=rfl
 have hw:(sgw s+r)/4503599627370496%2048≠2047:=by
  cases s<;>simp only[sgw,Bool.false_eq_true,if_false,if_true]<;>omega
 unfold kindN;rw[if_neg hw];constructor
 ·split
  ·decide
  ·split<;>decide
 ·split
  ·decide
  ·split<;>decide
theorem qoh (s:Bool) (r:Nat) (hr:r<INF):(9223372036854775808≤sgw s+r)↔s=true:=by
 have hI:INF=9218868437227405312:=rfl;cases s
 ·simp only[sgw,Bool.false_eq_true,if_false,iff_false];omega
 ·simp only[sgw,if_true,iff_true];omega
def stp (l:List UInt8):List UInt8:=l.dropWhile (· ==48)
def rep (dt sn:Bool) (B:List UInt8) (dp:Int):MS:=⟨dt,sn,B.length,qax (B.take 19),dp,(B.drop 19).any (·!=48)⟩
theorem qji (dt sn:Bool) (B:List UInt8) (dp:Int) (c:UInt8) (h1:48≤c.toNat) (h:c≠48∨B≠[]):qa0 (rep dt sn B dp) c=rep dt true (B++[c]) dp:=by
 unfold qa0 rep;dsimp only;have h46:c≠46:=fun e=>by subst e;exact absurd h1 (by decide)
 have hz: ¬(c=48∧B.length=0):=fun e=>by
  rcases h with h|h
  ·exact h e.1
  ·exact h (List.eq_nil_of_length_eq_zero e.2)
 rw[if_neg h46,if_neg hz]
 by_cases hl:B.length<19
 ·rw[if_pos hl,List.take_of_length_le (by omega),List.take_of_length_le (by simp;omega),List.drop_of_length_le (by omega),List.drop_of_length_le (by simp;omega),qbf,qce];simp
 ·rw[if_neg hl,List.take_append_of_le_length (by omega),List.drop_append_of_le_length (by omega),List.any_append];simp
theorem qnw (dt sn:Bool) (dp:Int):qa0 (rep dt sn [] dp) 48=rep dt true [] (dp - 1):=rfl
theorem qif (l:List UInt8): ∀(B:List UInt8) (dt:Bool) (dp:Int),qaR l→B≠[]→l.foldl qa0 (rep dt true B dp)=rep dt true (B++l) dp:=by
 induction l with
 |nil=>intro B dt dp _ _;simp
 |cons c t ih=>
  intro B dt dp hd hB;obtain⟨h1,h2,h3⟩:=qbN hd;rw[List.foldl_cons,qji dt true B dp c h1 (.inr hB),ih (B++[c]) dt dp h3 (by simp),List.append_assoc];rfl
theorem qrx (l:List UInt8):(stp l).length≤l.length:=(List.dropWhile_suffix _).length_le
theorem qbp (t:List UInt8):stp (48::t)=stp t:=rfl
theorem qbK (c:UInt8) (t:List UInt8) (h:c≠48):stp (c::t)=c::t:=by
 unfold stp;rw[List.dropWhile_cons,if_neg (by simpa using h)]
theorem qdN (l:List UInt8): ∀(dt sn:Bool) (dp:Int),qaR l→l≠[]→l.foldl qa0 (rep dt sn [] dp)=rep dt true (stp l) (dp - ((l.length:Int) - (stp l).length)):=by
 induction l with
 |nil=>intro _ _ _ _ h;exact absurd rfl h
 |cons c t ih=>
  intro dt sn dp hd _;obtain⟨h1,h2,h3⟩:=qbN hd
  by_cases hc:c=48
  ·subst hc;rw[List.foldl_cons,qnw,qbp]
   by_cases ht:t=[]
   ·subst ht;show rep dt true [] (dp - 1)=rep dt true [] _
    congr 1
   ·rw[ih dt true (dp - 1) h3 ht,List.length_cons]
    congr 1
    omega
  ·rw[List.foldl_cons,qji dt sn [] dp c h1 (.inl hc),List.nil_append,qif t [c] dt dp h3 (by simp),qbK c t hc]
   congr 1
   simp
theorem qqi (a b:List UInt8):stp (a++b)=if stp a=[] then stp b else stp a++b:=by
 induction a with
 |nil=>rw[show stp []=[] from rfl,if_pos rfl];rfl
 |cons c t ih=>
  by_cases hc:c=48
  ·subst hc;rw[List.cons_append,qbp,qbp,ih]
  ·rw[List.cons_append,qbK _ _ hc,qbK _ _ hc,if_neg (by simp)];rfl
theorem qhu (W:List UInt8) (h:qaR W) (h0:W≠[]):qbW W=rep false true (stp W) (0 - ((W.length:Int) - (stp W).length)):=by
 unfold qbW;exact qdN W false false 0 h h0
theorem qh5 (W T:List UInt8) (hW:qaR W) (hT:qaR T) (h0:W++T≠[]): ∃dp:Int,qbW (W++46::T)=rep true true (stp (W++T)) dp∧dp - (stp (W++T)).length= -(T.length:Int):=by
 have e0:qbW (W++46::T)=T.foldl qa0 (qa0 (qbW W) 46):=by unfold qbW;rw[List.foldl_append];rfl
 rw[e0,qqi]
 by_cases hW0:W=[]
 ·subst hW0;have hs0:stp ([]:List UInt8)=[]:=rfl;simp only[hs0,if_true];have hT0:T≠[]:=by simpa using h0
  rw[show qa0 (qbW []) 46=rep true false [] 0 from rfl,qdN T true false 0 hT hT0];exact⟨_,rfl,by omega⟩
 ·rw[qhu W hW hW0,show∀B dp,qa0 (rep false true B dp) 46=rep true true B (B.length:Int)from fun _ _=>rfl]
  by_cases hs:stp W=[]
  ·rw[hs,if_pos rfl]
   by_cases hT0:T=[]
   ·subst hT0;exact⟨0,rfl,rfl⟩
   ·rw[show rep true true ([]:List UInt8) (([]:List UInt8).length:Int)=rep true true [] 0 from rfl,qdN T true true 0 hT hT0];exact⟨_,rfl,by omega⟩
  ·rw[if_neg hs,qif T _ true _ hT hs];exact⟨_,rfl,by rw[List.length_append];omega⟩
theorem qhv (l:List UInt8) (h:qaR l):qax (stp l)=qax l:=by
 induction l with
 |nil=>rfl
 |cons c t ih=>
  obtain⟨h1,h2,h3⟩:=qbN h
  by_cases hc:c=48
  ·subst hc;rw[qbp,ih h3,qaT];simp
  ·rw[qbK c t hc]
theorem qll (l:List UInt8) (h:qaR l):qaR (stp l):=fun c hc=>h c ((List.dropWhile_suffix _).subset hc)
theorem qhZ (l:List UInt8):stp l=[]∨ ∃c t,stp l=c::t∧c≠48:=by
 induction l with
 |nil=>exact .inl rfl
 |cons c t ih=>
  by_cases hc:c=48
  ·subst hc;rw[qbp];exact ih
  ·exact .inr ⟨c,t,qbK c t hc,hc⟩
theorem qnj (A:List UInt8) (h:qaR A):qax A=qax (A.take 19)*10^(A.drop 19).length+qax (A.drop 19)∧qax (A.drop 19)<10^(A.drop 19).length:=by
 have e:A=A.take 19++A.drop 19:=(List.take_append_drop _ _).symm;obtain⟨h1,h2⟩:=qdv (e▸h);refine⟨?_,qjq _ h2⟩
 conv=>lhs;rw[e]
 exact qbf _ _
def gp (r:Nat):Nat:=2^(ex r - 1)
theorem qoC (r:Nat):V (r+1)=V r+gp r:=qkL r
theorem qor (r:Nat):V (r+1)≤9007199254740992*gp r:=by
 rw[qoC];unfold V gp;have:fr r+1≤9007199254740992:=by unfold fr;split<;>omega
 have:=Nat.mul_le_mul_right (2^(ex r - 1)) this;rw[Nat.add_mul] at this;omega
theorem qkP (X d P G:Nat) (hd:1000000000000000000≤d) (h1:d*X≤P) (h2:P<d*X+X) (hG:P≤9007199254740992*G):2*X<G:=by
 have h3:1000000000000000000*X≤d*X:=Nat.mul_le_mul_right _ hd;omega
theorem qmZ (r A B d:Nat) (hr:r<INF) (h0:0<r) (hd:1000000000000000000≤d) (hl:d*A*UU≤V r*B) (hu:V r*B<(d+1)*A*UU):
 qbm (d*A*(UU*2)) B r∧qbm ((d+1)*A*(UU*2)) B r:=by
 obtain⟨X,hX⟩: ∃X,X=A*UU:=⟨_,rfl⟩;obtain⟨P,hP⟩: ∃P,P=V r*B:=⟨_,rfl⟩;have e1:d*A*UU=d*X:=by rw[hX,Nat.mul_assoc]
 have e2:(d+1)*A*UU=d*X+X:=by rw[hX,Nat.mul_assoc,Nat.add_mul,Nat.one_mul]
 have e3:d*A*(UU*2)=2*(d*X):=by rw[←Nat.mul_assoc,e1,Nat.mul_comm]
 have e4:(d+1)*A*(UU*2)=2*(d*X+X):=by rw[←Nat.mul_assoc,e2,Nat.mul_comm]
 rw[e1,←hP] at hl;rw[e2,←hP] at hu;rw[e3,e4]
 have g2:P≤9007199254740992*(gp r*B):=by
  rw[hP,←Nat.mul_assoc];exact Nat.mul_le_mul_right _ (Nat.le_trans (Nat.le_of_lt (qbI r)) (qor r))
 have g1:P≤9007199254740992*(gp (r - 1)*B):=by
  rw[hP,←Nat.mul_assoc];have:=qor (r - 1);rw[Nat.sub_add_cancel h0] at this;exact Nat.mul_le_mul_right _ this
 have k2:=qkP X d P _ hd hl hu g2;have k1:=qkP X d P _ hd hl hu g1
 have m2:M r*B=2*P+gp r*B:=by
  rw[ql9,qoC,hP,Nat.add_mul,Nat.add_mul];omega
 have m1:M (r - 1)*B+gp (r - 1)*B=2*P:=by
  have:=qoC (r - 1);rw[Nat.sub_add_cancel h0] at this;rw[ql9,Nat.sub_add_cancel h0,←Nat.add_mul,hP];have:V (r - 1)+V r+gp (r - 1)=V r+V r:=by omega
  rw[this,Nat.add_mul];omega
 generalize gp r*B=G2 at*;generalize gp (r - 1)*B=G1 at*;generalize d*X=Y at*;unfold qbm;exact⟨⟨Nat.le_of_lt hr,fun _=>⟨by omega,fun e=>by omega⟩,fun _=>⟨by omega,fun e=>by omega⟩⟩,⟨Nat.le_of_lt hr,fun _=>⟨by omega,fun e=>by omega⟩,fun _=>⟨by omega,fun e=>by omega⟩⟩⟩
theorem qpr (d c k:Nat) (e p:Int) (r:Nat) (hc:c<10^k) (hp:p=e+k) (h:(d*10^k+c)*10^e.toNat*UU=V r*10^(-e).toNat):
 d*10^p.toNat*UU≤V r*10^(-p).toNat∧V r*10^(-p).toNat<(d+1)*10^p.toNat*UU:=by
 have hU:=qpQ;obtain⟨a,ha⟩: ∃a,a=e.toNat:=⟨_,rfl⟩;obtain⟨b,hb⟩: ∃b,b=(-e).toNat:=⟨_,rfl⟩;obtain⟨a',ha'⟩: ∃a,a=p.toNat:=⟨_,rfl⟩;obtain⟨b',hb'⟩: ∃b,b=(-p).toNat:=⟨_,rfl⟩;have hx:a'+b=a+b'+k:=by omega
 rw[←ha,←hb] at h;rw[←ha',←hb'];have hpw:(10:Nat)^a'*10^b=10^a*10^b'*10^k:=by rw[←Nat.pow_add,←Nat.pow_add,←Nat.pow_add,hx]
 have pb:0<(10:Nat)^b:=Nat.pow_pos (by decide);have pa:0<(10:Nat)^a:=Nat.pow_pos (by decide);have pb':0<(10:Nat)^b':=Nat.pow_pos (by decide);generalize (10:Nat)^a=A at*;generalize (10:Nat)^b=B at*;generalize (10:Nat)^a'=A' at*;generalize (10:Nat)^b'=B' at*;generalize (10:Nat)^k=K at*;generalize UU=UU at*;have hAB:0<A*B'*UU:=Nat.mul_pos (Nat.mul_pos pa pb') hU
 have t1:V r*B'*B=(d*K+c)*(A*B'*UU):=by
  rw[Nat.mul_right_comm,←h];ac_rfl
 have t2: ∀x,x*A'*UU*B=x*K*(A*B'*UU):=fun x=>by
  have:x*A'*UU*B=x*(A'*B)*UU:=by ac_rfl
  rw[this,hpw];ac_rfl
 constructor
 ·apply Nat.le_of_mul_le_mul_right _ pb;rw[t1,t2];exact Nat.mul_le_mul_right _ (Nat.le_add_right _ _)
 ·apply Nat.lt_of_mul_lt_mul_right (a:=B);rw[t1,t2];refine Nat.mul_lt_mul_of_pos_right ?_ hAB;rw[Nat.add_mul];omega
def T10 (n:Nat):Nat:=10^n
def T24:Nat:=2^1024
theorem qdw {a b:Nat} (h:a≤b):T10 a≤T10 b:=by unfold T10;exact Nat.pow_le_pow_right (by decide) h
theorem qnR (a:Nat):10^a=T10 a:=rfl
theorem qnM:T24≤T10 311:=by unfold T24 T10;decide+kernel
theorem qqU:V INF=T24*UU:=by unfold UU T24;decide+kernel
theorem qrX:10000000000000000000*UU≤T10 346:=by unfold UU T10;decide+kernel
theorem qnp (d r:Nat) (p:Int) (hr:r<INF) (h0:0<d) (hl:d*10^p.toNat*UU≤V r*10^(-p).toNat):p≤310:=by
 apply Int.not_lt.1;intro h;rw[show(-p).toNat=0 by omega,Nat.pow_zero,Nat.mul_one,qnR] at hl;have h1:=qlv hr;rw[qqU] at h1;have h2:T10 311≤d*T10 p.toNat:=Nat.le_trans (qdw (by omega)) (Nat.le_mul_of_pos_left _ h0);have h3:=Nat.mul_le_mul_right UU h2;have h4:=Nat.mul_le_mul_right UU qnM;omega
theorem qnJ (d r:Nat) (p:Int) (h0:0<r) (hd:d+1≤10000000000000000000) (hu:V r*10^(-p).toNat<(d+1)*10^p.toNat*UU): -345≤p:=by
 apply Int.not_lt.1;intro h;rw[show p.toNat=0 by omega,Nat.pow_zero,Nat.mul_one,qnR] at hu;have h1:1≤V r:=qne h0;have h2:T10 346≤T10 (-p).toNat:=qdw (by omega);have h3:1*T10 (-p).toNat≤V r*T10 (-p).toNat:=Nat.mul_le_mul_right _ h1;have h4:=qrX;have h5:(d+1)*UU≤10000000000000000000*UU:=Nat.mul_le_mul_right _ hd;omega
theorem qff (d:Nat) (p:Int) (h0:0<d) (hd:d<18446744073709551616) (h1: -345≤p) (h2:p≤310):qbm (d*10^p.toNat*(UU*2)) (10^(-p).toNat) (qbZ d (p+348).toNat):=by
 have h:=qdT d (p+348).toNat h0 hd (by omega)
 have hP:pP (p+348).toNat=10^p.toNat:=by
  unfold pP
  by_cases h:348≤(p+348).toNat
  ·rw[if_pos h];exact congrArg (10^ ·) (by omega)
  ·rw[if_neg h,show p.toNat=0 by omega]
 have hQ:pQ (p+348).toNat=10^(-p).toNat:=by
  unfold pQ
  by_cases h:348≤(p+348).toNat
  ·rw[if_pos h,show(-p).toNat=0 by omega]
  ·rw[if_neg h];exact congrArg (10^ ·) (by omega)
 have e75:(2:Nat)^1075=UU*2:=by unfold UU;decide+kernel
 rw[hP,hQ,e75] at h;exact h
theorem qjr (A:List UInt8) (hd:qaR A) (hh:A=[]∨ ∃c t,A=c::t∧c≠48) (e p:Int) (r:Nat) (hr:r<INF) (h:qax A*10^e.toNat*UU=V r*10^(-e).toNat) (hp:A≠[]→p=e+((A.drop 19).length:Int)):
 v64 (qax (A.take 19)) p=r∧((A.drop 19).any (·!=48)=true→ -345≤p→p≤310→qbZ (qax (A.take 19)+1) (p+348).toNat=qbZ (qax (A.take 19)) (p+348).toNat):=by
 have hU:=qpQ;rcases hh with rfl|⟨c,t,hA,hc⟩
 ·refine⟨?_,fun h=>by cases h⟩
  have h0:V r=V 0:=by
   rw[qfU];rw[show qax []=0 from rfl,Nat.zero_mul,Nat.zero_mul] at h;have hq:0<10^(-e).toNat:=Nat.pow_pos (by decide);rcases Nat.eq_zero_or_pos (V r)with g|g
   ·exact g
   ·have:=Nat.mul_pos g hq;omega
  rw[qsk h0];rfl
 ·have hAn:A≠[]:=by rw[hA];simp
  have hp':=hp hAn;obtain⟨s1,s2⟩:=qnj A hd;have htk:(A.take 19).length=min 19 A.length:=List.length_take ..;have hdr:(A.drop 19).length=A.length - 19:=List.length_drop ..;have hdt:qaR (A.take 19):=fun x hx=>hd x (List.mem_of_mem_take hx)
  have hd19:qax (A.take 19)<10000000000000000000:=by
   have h1:=qjq _ hdt;have h2:10^(A.take 19).length≤10^19:=Nat.pow_le_pow_right (by decide) (by omega);omega
  have hpos:10^((A.take 19).length - 1)≤qax (A.take 19):=by
   have e1:A.take 19=c::t.take 18:=by rw[hA];rfl
   rw[e1] at hdt⊢;exact qcK c _ hdt hc
  have h1d:0<qax (A.take 19):=Nat.lt_of_lt_of_le (Nat.pow_pos (by decide)) hpos;rw[s1] at h;obtain⟨l1,l2⟩:=qpr _ _ _ e p r s2 hp' h
  have r0:0<r:=by
   rcases Nat.eq_zero_or_pos r with g|g
   ·rw[g,qfU,Nat.zero_mul] at l1;have:0<qax (A.take 19)*10^p.toNat*UU:=Nat.mul_pos (Nat.mul_pos h1d (Nat.pow_pos (by decide))) hU;omega
   ·exact g
  have rh:=qnp _ r p hr h1d l1;have rl:=qnJ _ r p r0 (by omega) l2
  have hv:v64 (qax (A.take 19)) p=qbZ (qax (A.take 19)) (p+348).toNat:=by
   unfold v64;rw[if_neg (by omega),if_neg (by omega),if_neg (by omega)]
  have hB:0<10^(-p).toNat:=Nat.pow_pos (by decide);have n1:=qff (qax (A.take 19)) p h1d (by omega) rl rh;rw[hv]
  by_cases hk:A.length≤19
  ·have hdn:A.drop 19=[]:=List.drop_of_length_le hk;refine⟨?_,fun h=>by rw[hdn] at h;cases h⟩;rw[hdn] at h hp';have hpe:p=e:=by rw[hp'];simp
   refine qcX hB (Nat.le_of_lt hr) ?_ n1
   have h':qax (A.take 19)*10^e.toNat*UU=V r*10^(-e).toNat:=by
    rw[←h,show qax ([]:List UInt8)=0 from rfl,show([]:List UInt8).length=0 from rfl,Nat.pow_zero,Nat.mul_one,Nat.add_zero]
   rw[←Nat.mul_assoc,hpe,h']
   ac_rfl
  ·have h18:1000000000000000000≤qax (A.take 19):=by
    rw[htk,Nat.min_eq_left (by omega)] at hpos;exact hpos
   obtain⟨c1,c2⟩:=qmZ r _ _ _ hr r0 h18 l1 l2;have n2:=qff (qax (A.take 19)+1) p (by omega) (by omega) rl rh;have q1:=qd1 hB n1 c1;have q2:=qd1 hB n2 c2;exact⟨q1,fun _ _ _=>by rw[q1,q2]⟩
theorem qhl (l:List UInt8): ∃Z,l=Lib.trimRightB l 48++Z∧ ∀c∈Z,c=48:=by
 refine⟨(l.reverse.takeWhile (· ==48)).reverse,?_,fun c hc=>?_⟩
 ·unfold Lib.trimRightB;rw[←List.reverse_append,List.takeWhile_append_dropWhile,List.reverse_reverse]
 ·rw[List.mem_reverse] at hc
  have key: ∀m:List UInt8,∀c∈m.takeWhile (· ==48),c=48:=by
   intro m
   induction m with
   |nil=>intro c hc;cases hc
   |cons x t ih=>
    intro c hc;rw[List.takeWhile_cons] at hc
    split at hc
    ·rename_i hx
     rw[List.mem_cons] at hc;rcases hc with rfl|hc
     ·simpa using hx
     ·exact ih c hc
    ·cases hc
  exact key _ c hc
theorem qii (l m:List UInt8):Lib.trimRightB l 48≠m++[48]:=by
 unfold Lib.trimRightB;intro e;have e2:=congrArg List.reverse e;rw[List.reverse_reverse,List.reverse_append] at e2
 have key: ∀k:List UInt8,∀t,k.dropWhile (· ==48)≠48::t:=by
  intro k
  induction k with
  |nil=>intro t h;cases h
  |cons c k ih=>
   intro t h;rw[List.dropWhile_cons] at h
   split at h
   ·exact ih t h
   ·rename_i hc
    cases h;exact hc rfl
 exact key _ _ e2
theorem qiQ (Z:List UInt8) (h: ∀c∈Z,c=48):qax Z=0:=by
 induction Z with
 |nil=>rfl
 |cons c t ih=>
  rw[qaT,ih (fun x hx=>h x (List.mem_cons_of_mem _ hx)),h c (List.mem_cons_self ..)];simp
theorem qqX (A:List UInt8) (k:Nat) (h:qaR A) (hh:A=[]∨ ∃c t,A=c::t∧c≠48) (hv:qax A<T10 k):A.length≤k:=by
 rcases hh with rfl|⟨c,t,rfl,hc⟩
 ·exact Nat.zero_le _
 ·have h1:=qcK c t h hc;rw[List.length_cons];apply Nat.le_of_not_lt;intro hl;have h2:T10 k≤T10 t.length:=qdw (by omega);unfold T10 at h2 hv;omega
theorem qlN (k F:Nat) (hk:0<k) (h:F<T10 k):(Lib.decDigits F).length≤k:=qek k F hk h
def T2 (n:Nat):Nat:=2^n
def T5 (n:Nat):Nat:=5^n
theorem qqB {a b:Nat} (h:a≤b):T2 a≤T2 b:=by unfold T2;exact Nat.pow_le_pow_right (by decide) h
theorem qqu {a b:Nat} (h:a≤b):T5 a≤T5 b:=by unfold T5;exact Nat.pow_le_pow_right (by decide) h
theorem qsp (n:Nat):0<T5 n:=by unfold T5;exact Nat.pow_pos (by decide)
theorem qq2 (a b:Nat):T2 a*T2 b=T2 (a+b):=by unfold T2;exact(Nat.pow_add 2 a b).symm
theorem qst (n:Nat):T10 n=T2 n*T5 n:=by unfold T10 T2 T5;rw[←Nat.mul_pow]
theorem qqY:UU=T2 1074:=by unfold UU T2;exact Eq.refl _
theorem qtp (r:Nat):V r=fr r*T2 (ex r - 1):=rfl
theorem qoR:9007199254740992*T5 1074≤T10 767:=by unfold T5 T10;decide+kernel
theorem qtj (r:Nat):fr r<9007199254740992:=by unfold fr;split<;>omega
theorem qgK (r t:Nat) (he0:1≤ex r) (he:ex r≤1074) (ht:t≤1075 - ex r):V r*10^t<T10 767*UU∧V r*10^t<9007199254740992*10^t*UU:=by
 have h10:0<10^t:=Nat.pow_pos (by decide);have hU:=qpQ;have h1:=qtj r;constructor
 ·have h2:V r*T10 t≤fr r*(T2 (ex r - 1)*(T2 (1075 - ex r)*T5 1074)):=by
   rw[qtp,Nat.mul_assoc];refine Nat.mul_le_mul_left _ (Nat.mul_le_mul_left _ ?_);refine Nat.le_trans (qdw ht) ?_;rw[qst];exact Nat.mul_le_mul_left _ (qqu (by omega))
  rw[←Nat.mul_assoc (T2 (ex r - 1)),qq2,show ex r - 1+(1075 - ex r)=1074 by omega,←qqY] at h2;have h3:fr r*(UU*T5 1074)<9007199254740992*(UU*T5 1074):=Nat.mul_lt_mul_of_pos_right h1 (Nat.mul_pos hU (qsp _))
  have h4:9007199254740992*(UU*T5 1074)≤T10 767*UU:=by
   have:=Nat.mul_le_mul_right UU qoR;rw[Nat.mul_assoc,Nat.mul_comm (T5 1074)] at this;exact this
  exact Nat.lt_of_le_of_lt h2 (Nat.lt_of_lt_of_le h3 h4)
 ·have h2:V r<9007199254740992*UU:=by
   rw[qtp];have h3:T2 (ex r - 1)≤UU:=by rw[qqY];exact qqB (by omega)
   exact Nat.lt_of_le_of_lt (Nat.mul_le_mul_left _ h3) (Nat.mul_lt_mul_of_pos_right h1 hU)
  rw[Nat.mul_right_comm];exact Nat.mul_lt_mul_of_pos_right h2 h10
theorem qgO (s:Bool) (r:Nat) (hr:r<INF): ∃W T,qak (sgw s+r)=(if s then [45] else [])++(W++(if T=[] then [] else 46::T))∧qaR W∧qaR T∧W≠[]∧qax (W++T)*UU=V r*10^T.length∧T.length≤1074∧((T=[]∧W.length≤311)∨(T≠[]∧W.length≤16))∧(stp (W++T)).length≤767∧W=Lib.decDigits (qax W)∧(∀m,T≠m++[48]):=by
 obtain⟨k4,k3⟩:=qmx s r hr;obtain⟨L,q,e,hd,hq,hq2,hv⟩:=qoO s r UU qsJ hr;have hL:L=L.take (L.length - q)++L.drop (L.length - q):=(List.take_append_drop _ _).symm;have hT:(L.drop (L.length - q)).length=q:=by rw[List.length_drop];omega
 obtain⟨hW,hTd⟩:=qdv (hL▸hd)
 have hsplit:qax L=qax (L.take (L.length - q))*10^q+qax (L.drop (L.length - q)):=by
  conv=>lhs;rw[hL]
  rw[qbf,hT]
 obtain⟨Z,hZ1,hZ2⟩:=qhl (L.drop (L.length - q));have x1:exW (sgw s+r)=Lib.trimLeftB (L.take (L.length - q)) 48:=by unfold exW;rw[e]
 have x2:exT (sgw s+r)=Lib.trimRightB (L.drop (L.length - q)) 48:=by unfold exT;rw[e]
 have hex:qak (sgw s+r)=(if s then [45] else [])++((if exW (sgw s+r)=[] then [48] else exW (sgw s+r))++(if exT (sgw s+r)=[] then [] else 46::exT (sgw s+r))):=by
  unfold qak;rw[if_neg k4,if_neg k3]
  have y1:(if 9223372036854775808≤sgw s+r then [45] else [])=(if s=true then [45] else ([]:List UInt8)):=by
   by_cases hs:s=true
   ·rw[if_pos ((qoh s r hr).2 hs),if_pos hs]
   ·rw[if_neg (fun h=>hs ((qoh s r hr).1 h)),if_neg hs]
  rw[y1]
 obtain⟨T,hTe⟩: ∃T,T=exT (sgw s+r):=⟨_,rfl⟩;rw[←hTe] at hex;rw[←x2,←hTe] at hZ1;have hTT:qaR T:=(qdv (hZ1▸hTd)).1;have hTl:T.length+Z.length=q:=by rw[←List.length_append,←hZ1];exact hT
 obtain⟨W,hWe⟩: ∃W,W=(if exW (sgw s+r)=[] then [48] else exW (sgw s+r)):=⟨_,rfl⟩;rw[←hWe] at hex;rw[x1,qkR _ hW] at hWe
 have hWW:W=Lib.decDigits (qax (L.take (L.length - q))):=by
  rw[hWe]
  by_cases h0:qax (L.take (L.length - q))=0
  ·rw[h0,if_pos rfl,if_pos rfl,Lib.decDigits_one (by decide)];rfl
  ·rw[if_neg h0,if_neg (qhL _)]
 have hWv:qax W=qax (L.take (L.length - q)):=by rw[hWW,qct]
 have hWd:qaR W:=by rw[hWW];exact qci _
 have hTz:qax (L.drop (L.length - q))=qax T*10^Z.length:=by rw[hZ1,qbf,qiQ Z hZ2,Nat.add_zero]
 have hz:0<10^Z.length:=Nat.pow_pos (by decide)
 have key:qax (W++T)*10^Z.length=qax L:=by
  rw[qbf,Nat.add_mul,hWv,Nat.mul_assoc,←Nat.pow_add,hTl,hsplit,hTz]
 have hval:qax (W++T)*UU=V r*10^T.length:=by
  apply Nat.eq_of_mul_eq_mul_right hz;rw[Nat.mul_right_comm,key,hv,Nat.mul_assoc,←Nat.pow_add,hTl]
 have hWT:qaR (W++T):=fun c hc=>by
  rw[List.mem_append] at hc;rcases hc with hc|hc
  ·exact hWd c hc
  ·exact hTT c hc
 have hq2':=hq2.1
 have hlen:((T=[]∧W.length≤311)∨(T≠[]∧W.length≤16))∧(stp (W++T)).length≤767:=by
  by_cases hT0:T=[]
  ·rw[hT0,List.append_nil,show([]:List UInt8).length=0 from rfl,Nat.pow_zero,Nat.mul_one] at hval;have h1:=qlv hr;rw[qqU,←hval] at h1;have h2:qax W<T24:=Nat.lt_of_mul_lt_mul_right h1;have h3:qax W<T10 311:=Nat.lt_of_lt_of_le h2 qnM
   have h4:W.length≤311:=by
    rw[hWW];exact qlN 311 _ (by decide) (by rw[←hWv];exact h3)
   have h5:=qrx (W++T);rw[hT0,List.append_nil] at h5;exact⟨.inl ⟨hT0,h4⟩,by rw[hT0,List.append_nil];omega⟩
  ·have hTn:=List.length_pos_iff.2 hT0;have hex2:ex r≤1074:=by have:=hq2.2;omega
   have hb:=qgK r T.length (by unfold ex;split<;>omega) hex2 (by have:=hq2.2;omega);rw[←hval] at hb;obtain⟨b1,b2⟩:=hb;have h1:qax (W++T)<T10 767:=Nat.lt_of_mul_lt_mul_right b1
   have h2:qax W<9007199254740992:=by
    rw[qbf] at b2;have:qax W*10^T.length≤qax W*10^T.length+qax T:=Nat.le_add_right _ _;have h5:qax W*10^T.length*UU<9007199254740992*10^T.length*UU:=Nat.lt_of_le_of_lt (Nat.mul_le_mul_right _ this) b2;exact Nat.lt_of_mul_lt_mul_right (Nat.lt_of_mul_lt_mul_right h5)
   refine⟨.inr ⟨hT0,?_⟩,?_⟩
   ·rw[hWW];exact qek 16 _ (by decide) (by rw[←hWv];exact Nat.lt_of_lt_of_le h2 (by decide))
   ·rw[←qhv _ hWT] at h1;exact qqX _ 767 (qll _ hWT) (qhZ _) h1
 exact⟨W,T,hex,hWd,hTT,by rw[hWW];exact qhL _,hval,by omega,hlen.1,hlen.2,by rw[hWv];exact hWW,fun m=>by rw[hTe,x2];exact qii _ m⟩
theorem qoM (s:Bool) (c:UInt8) (t:List UInt8) (h:isD c=true):sgd ((if s then [45] else [])++c::t)=c::t∧ngL ((if s then [45] else [])++c::t)=s:=by
 have h1:=(qaB c).1 h;cases s
 ·refine⟨?_,?_⟩
  ·show(if c=43∨c=45 then _ else _)=_;rw[if_neg (by rintro(rfl|rfl)<;>exact absurd h (by decide))]
  ·show(some c==some 45)=false;rw[beq_eq_false_iff_ne];intro e;cases e;exact absurd h (by decide)
 ·exact⟨rfl,rfl⟩
theorem qgh (s:Bool) (W T R:List UInt8) (hW:qaR W) (hT:qaR T) (h0:W≠[]) (hR: ∀c,R.head?=some c→isD c=false) (dot:Bool) (hdT:dot=false→T=[])
 (hR2:R.head?≠some 46) (hRT:qd0 R=true) (X:List UInt8) (hX:X=(if s then [45] else [])++((W++(if dot then 46::T else []))++R)):
 qaE X=true∧ngL X=s∧tlL X=R∧qdf X=W++(if dot then 46::T else []):=by
 obtain⟨c,t,hc⟩: ∃c t,W=c::t:=by cases W with|nil=>exact absurd rfl h0|cons c t=>exact⟨c,t,rfl⟩
 have hcd:isD c=true:=qaW hW c (by rw[hc];exact List.mem_cons_self ..);obtain⟨s1,s2⟩:=qoM s c (t++(if dot then 46::T else [])++R) hcd;have eX:X=(if s then [45] else [])++c::(t++(if dot then 46::T else [])++R):=by rw[hX,hc];simp
 rw[←eX] at s1 s2
 have hm: ∃N,qel (sgd X)=(N,R)∧0<N:=by
  rw[s1]
  cases dot with
  |true=>
   refine⟨W.length+T.length,?_,by rw[hc];simp;omega⟩;have:=qqy W T R (qaW hW) (qaW hT) hR;rw[←this,hc];simp
  |false=>
   refine⟨W.length,?_,by rw[hc];simp⟩;have h1:=qfp W R (qaW hW) hR;have e:c::(t++(if false=true then 46::T else [])++R)=W++R:=by rw[hc];simp
   rw[e];unfold qel;dsimp only;rw[h1,List.drop_left]
   cases R with
   |nil=>rfl
   |cons x y=>
    dsimp only;rw[if_neg (fun e=>hR2 (by rw[e];rfl))]
 obtain⟨N,hm,hN⟩:=hm;have ht:tlL X=R:=by unfold tlL;rw[hm]
 refine⟨?_,s2,ht,?_⟩
 ·unfold qaE;rw[hm,hRT,Bool.and_true,bne_iff_ne];exact Nat.pos_iff_ne_zero.1 hN
 ·unfold qdf;rw[ht,s1];have e:c::(t++(if dot then 46::T else [])++R)=(W++(if dot then 46::T else []))++R:=by rw[hc];simp
  rw[e,List.length_append,Nat.add_sub_cancel,List.take_left]
def pX (X:List UInt8):Int:=qaG (qbW (qdf X)) (qi5 (tlL X))
def qe7 (X:List UInt8):Prop:=(qbW (qdf X)).trunc=true→ -345≤pX X→pX X≤310→qbZ ((qbW (qdf X)).mant+1) (pX X+348).toNat=qbZ (qbW (qdf X)).mant (pX X+348).toNat
theorem qe0 (X A:List UInt8) (dt:Bool) (dp e:Int) (r:Nat) (hm:qbW (qdf X)=rep dt true A dp) (hd:qaR A) (hh:A=[]∨ ∃c t,A=c::t∧c≠48) (hr:r<INF)
 (h:qax A*10^e.toNat*UU=V r*10^(-e).toNat) (hp:(if dt then dp else (A.length:Int))+qi5 (tlL X) - (A.length:Int)=e):qi6 X=sgw (ngL X)+r∧qe7 X:=by
 have hpx:A≠[]→pX X=e+((A.drop 19).length:Int):=by
  intro hA
  have hmant:qax (A.take 19)≠0:=by
   rcases hh with rfl|⟨c,t,rfl,hc⟩
   ·exact absurd rfl hA
   ·have h1:qaR (c::t.take 18):=fun x hx=>hd x (List.mem_of_mem_take (i:=19) hx)
    have h2:=qcK c _ h1 hc;have h3:=Nat.pow_pos (n:=(t.take 18).length) (show 0<10 by decide);exact fun e=>by rw[show(c::t).take 19=c::t.take 18 from rfl] at e;omega
  unfold pX qaG;rw[hm];show(if qax (A.take 19)=0 then 0 else (if dt then dp else (A.length:Int))+qi5 (tlL X) - (min A.length 19:Nat))=_;rw[if_neg hmant,List.length_drop];omega
 obtain⟨v1,v2⟩:=qjr A hd hh e (pX X) r hr h hpx;refine⟨?_,?_⟩
 ·unfold qi6;rw[show qaG (qbW (qdf X)) (qi5 (tlL X))=pX X from rfl,hm];exact congrArg (sgw (ngL X)+ ·) v1
 ·unfold qe7;rw[hm];exact v2
theorem qmb (s:Bool) (W T R:List UInt8) (hW:qaR W) (hT:qaR T) (hR: ∀c∈R,okB c=true) (dot:Bool): ∀c∈(if s then [45] else [])++((W++(if dot then 46::T else []))++R),okB c=true:=by
 intro c hc;rw[List.mem_append,List.mem_append,List.mem_append] at hc;rcases hc with hc|(hc|hc)|hc
 ·cases s
  ·cases hc
  ·rw[if_pos rfl,List.mem_singleton] at hc;subst hc;rfl
 ·exact qb1 (qaW hW c hc)
 ·cases dot
  ·cases hc
  ·rw[if_pos rfl,List.mem_cons] at hc;rcases hc with rfl|hc
   ·rfl
   ·exact qb1 (qaW hT c hc)
 ·exact hR c hc
def shL (s:Bool) (A T:List UInt8):List UInt8:=(if s then [45] else [])++(([48]++46::A)++101::Lib.itoa ((A.length:Int) - (T.length:Int)))
theorem qdb (s:Bool) (r:Nat) (hr:r<INF): ∃W T,qak (sgw s+r)=(if s then [45] else [])++(W++(if T=[] then [] else 46::T))∧qaR W∧qaR T∧W≠[]∧(qak (sgw s+r)).length≤1200∧(stp (W++T)).length≤767∧T.length≤1074∧
 qaE (qak (sgw s+r))=true∧qbt (qak (sgw s+r))=false∧qi6 (qak (sgw s+r))=sgw s+r∧qe7 (qak (sgw s+r))∧
 (stp (W++T)≠[]→qaE (shL s (stp (W++T)) T)=true∧qi6 (shL s (stp (W++T)) T)=sgw s+r∧qe7 (shL s (stp (W++T)) T))∧(stp (W++T)=[]→r=0)∧(T=[]→W.length≤311):=by
 obtain⟨W,T,hX,hW,hT,hW0,hv,hTl,hlen,hA,_,_⟩:=qgO s r hr;obtain⟨X,hXe⟩: ∃X,X=qak (sgw s+r):=⟨_,rfl⟩;rw[←hXe] at hX⊢
 have hWT:qaR (W++T):=fun c hc=>by
  rw[List.mem_append] at hc;rcases hc with hc|hc
  ·exact hW c hc
  ·exact hT c hc
 have hXd:X=(if s then [45] else [])++((W++(if decide (T≠[]) then 46::T else []))++[]):=by
  have e:(if decide (T≠[]) then 46::T else [])=(if T=[] then [] else 46::T):=by by_cases h:T=[]<;>simp[h]
  rw[hX,List.append_nil,e]
 obtain⟨t1,t2,t3,t4⟩:=qgh s W T [] hW hT hW0 (fun c hc=>by cases hc) (decide (T≠[])) (fun h=>by simpa using h) (fun h=>by cases h) rfl X hXd;have hsA:=qll _ hWT;have hsh:=qhZ (W++T)
 have hval:qax (stp (W++T))*10^(-(T.length:Int)).toNat*UU=V r*10^(- -(T.length:Int)).toNat:=by
  rw[qhv _ hWT,show(-(T.length:Int)).toNat=0 by omega,show(- -(T.length:Int)).toNat=T.length by omega,Nat.pow_zero,Nat.mul_one];exact hv
 have hread:qi6 X=sgw (ngL X)+r∧qe7 X:=by
  by_cases hT0:T=[]
  ·have hm:qbW (qdf X)=rep false true (stp (W++T)) (0 - ((W.length:Int) - (stp W).length)):=by
    rw[t4,if_neg (by simp[hT0]),List.append_nil,hT0,List.append_nil];exact qhu W hW hW0
   refine qe0 X _ false _ (-(T.length:Int)) r hm hsA hsh hr hval ?_;rw[t3,hT0];show((stp (W++[])).length:Int)+0 - _= -(0:Int);omega
  ·obtain⟨dp,e1,e2⟩:=qh5 W T hW hT (by simp[hT0])
   have hm:qbW (qdf X)=rep true true (stp (W++T)) dp:=by
    rw[t4,if_pos (by simp[hT0])];exact e1
   refine qe0 X _ true dp (-(T.length:Int)) r hm hsA hsh hr hval ?_;rw[t3];show dp+0 - _=_;omega
 rw[t2] at hread;refine⟨W,T,hX,hW,hT,hW0,?_,hA,hTl,t1,?_,hread.1,hread.2,fun hA0=>?_,fun hA0=>?_,fun hT0=>by rcases hlen with ⟨_,g⟩|⟨g,_⟩;exact g;exact absurd hT0 g⟩
 ·rw[hX,List.length_append,List.length_append];have h1:(if s=true then [45] else ([]:List UInt8)).length≤1:=by cases s<;>simp
  have h2:(if T=[] then [] else 46::T).length≤T.length+1:=by split<;>simp
  rcases hlen with ⟨g,h3⟩|⟨g,h3⟩
  ·rw[g] at h2⊢;simp at h2⊢;omega
  ·omega
 ·refine qrl _ ?_;rw[hXd];exact qmb s W T [] hW hT (fun c hc=>by cases hc) _
 ·obtain⟨A,hAe⟩: ∃A,A=stp (W++T):=⟨_,rfl⟩;rw[←hAe] at hA0 hA hsA hsh hval⊢;obtain⟨n,hn⟩: ∃n:Int,n=(A.length:Int) - (T.length:Int):=⟨_,rfl⟩;have hD:=qci n.natAbs;have hDl:(Lib.decDigits n.natAbs).length≤4:=qek 4 _ (by decide) (by omega);have hDn:1≤(Lib.decDigits n.natAbs).length:=List.length_pos_iff.2 (qhL _);obtain⟨g1,g2⟩:=qre n n.natAbs [];rw[List.append_nil] at g1 g2;rw[←qfe] at g1 g2
  have hfull:qbo (Lib.decDigits n.natAbs)=(Lib.decDigits n.natAbs).length:=by
   have:=qfp (Lib.decDigits n.natAbs) [] (qaW hD) (fun c hc=>by cases hc);rw[List.append_nil] at this;exact this
  have htl:qd0 (101::Lib.itoa n)=true:=by
   show(((101:UInt8)==101||(101:UInt8)==69)&&(decide (1≤qbo (sgd (Lib.itoa n)))&&decide (qbo (sgd (Lib.itoa n))≤5)&&(qbo (sgd (Lib.itoa n))==(sgd (Lib.itoa n)).length)))=true;rw[g1,hfull,dT hDn,dT (show(Lib.decDigits n.natAbs).length≤5 by omega)];simp
  have hex:qi5 (101::Lib.itoa n)=n:=by
   show(if ngL (Lib.itoa n) then -(qax (sgd (Lib.itoa n)):Int) else (qax (sgd (Lib.itoa n)):Int))=n;rw[g1,g2,qct]
   by_cases h:n<0
   ·rw[dT h,if_pos rfl];omega
   ·rw[dF h,if_neg (by decide)];omega
  have h48:qaR [48]:=fun c hc=>by rw[List.mem_singleton] at hc;subst hc;exact⟨by decide,by decide⟩
  have hS:shL s A T=(if s then [45] else [])++(([48]++(if true then 46::A else []))++101::Lib.itoa n):=by unfold shL;rw[hn];rfl
  obtain⟨u1,u2,u3,u4⟩:=qgh s [48] A (101::Lib.itoa n) h48 hsA (by simp) (fun c hc=>by cases hc;rfl) true (fun h=>by cases h) (by simp) htl _ hS;obtain⟨dp,e1,e2⟩:=qh5 [48] A h48 hsA (by simp)
  have hstp:stp ([48]++A)=A:=by
   rcases hsh with rfl|⟨c,t,rfl,hc⟩
   ·exact absurd rfl hA0
   ·show stp (48::c::t)=_;rw[qbp,qbK c t hc]
  rw[hstp] at e1 e2;have hm:qbW (qdf (shL s A T))=rep true true A dp:=by rw[u4];exact e1
  have:=qe0 (shL s A T) A true dp (-(T.length:Int)) r hm hsA hsh hr hval (by
   rw[u3,hex,hn];show dp+_ - _=_
   omega)
  rw[u2] at this;exact⟨u1,this.1,this.2⟩
 ·rw[hA0,show qax []=0 from rfl,Nat.zero_mul,Nat.zero_mul] at hval;have hq:0<10^(- -(T.length:Int)).toNat:=Nat.pow_pos (by decide)
  have h0:V r=V 0:=by
   rw[qfU];rcases Nat.eq_zero_or_pos (V r)with g|g
   ·exact g
   ·have:=Nat.mul_pos g hq;omega
  exact qsk h0
end Go.Proofs.YtdeimnnpcfncpaaGreatDoor
end
