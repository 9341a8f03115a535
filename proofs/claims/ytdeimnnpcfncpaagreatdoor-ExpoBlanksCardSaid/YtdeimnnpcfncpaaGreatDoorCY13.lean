/- Parts of the proof: F16 F22. -/
import Derived.Test.YtdeimnnpcfncpaaGreatDoorCY12
set_option linter.unusedVariables false
set_option linter.unusedSimpArgs false
set_option maxRecDepth 100000
set_option maxHeartbeats 64000000
section
namespace Go.Proofs.YtdeimnnpcfncpaaGreatDoor
open Go Go.RowKit
theorem qcF (l:List UInt8): ∀c∈l.take (qbo l),isD c=true:=by
 induction l with
 |nil=>intro c h;cases h
 |cons x t ih=>
  intro c h;rw[qfV] at h
  by_cases g:isD x=true
  ·rw[if_pos g,List.take_succ_cons] at h
   cases h with
   |head=>exact g
   |tail _ h=>exact ih c h
  ·rw[if_neg g] at h;cases h
theorem qbH (l:List UInt8) (st:MS) (h: ∀c∈l,isD c=true):(l.foldl qa0 st).dot=st.dot∧(l≠[]→(l.foldl qa0 st).seen=true)∧(st.seen=true→(l.foldl qa0 st).seen=true):=by
 induction l generalizing st with
 |nil=>exact⟨rfl,fun h=>absurd rfl h,fun h=>h⟩
 |cons c t ih=>
  have hc:=(qaB c).1 (h c (List.mem_cons_self ..));have hne:c≠46:=fun e=>by subst e;exact absurd hc (by decide)
  have h1:(qa0 st c).dot=st.dot∧(qa0 st c).seen=true:=by
   unfold qa0;rw[if_neg hne]
   split
   ·exact⟨rfl,rfl⟩
   ·split<;>exact⟨rfl,rfl⟩
  have:=ih (qa0 st c) (fun x hx=>h x (List.mem_cons_of_mem _ hx));refine⟨this.1.trans h1.1,fun _=>this.2.2 h1.2,fun _=>this.2.2 h1.2⟩
theorem qgn (l r:List UInt8) (N:Nat) (h:qel l=(N,r)) (hN:N≠0): ∃P,l=P++r∧P≠[]∧(qbW P).seen=true∧ ∀k (hk:k<P.length),isD P[k]=true∨(P[k]=46∧(qbW (P.take k)).dot=false):=by
 unfold qel at h;dsimp only at h;have hd:=qcF l;have hl:l=l.take (qbo l)++l.drop (qbo l):=(List.take_append_drop _ _).symm;have hlen:(l.take (qbo l)).length=qbo l:=List.length_take_of_le (qcW l);generalize l.take (qbo l)=D at*
 split at h
 ·rename_i hr
  simp only[Prod.mk.injEq] at h;obtain⟨h1,rfl⟩:=h;refine⟨D,by rw[hr] at hl;exact hl,fun e=>hN (by rw[←h1,←hlen,e];rfl),(qbH D ms0 hd).2.1 (fun e=>hN (by rw[←h1,←hlen,e];rfl)),fun k hk=> .inl (hd _ (List.getElem_mem _))⟩
 ·rename_i c t hr
  split at h
  ·rename_i hc
   subst hc;simp only[Prod.mk.injEq] at h;obtain⟨h1,rfl⟩:=h;have ht:=qcF t;have htl:t=t.take (qbo t)++t.drop (qbo t):=(List.take_append_drop _ _).symm;have htlen:(t.take (qbo t)).length=qbo t:=List.length_take_of_le (qcW t);generalize t.take (qbo t)=T at*;have hm:(qbW (D++[46])).dot=true:=by rw[qgk];rfl
   refine⟨D++46::T,?_,by simp,?_,fun k hk=>?_⟩
   ·rw[hr] at hl
    conv=>lhs;rw[hl,htl]
    simp
   ·unfold qbW;rw[List.foldl_append,List.foldl_cons];have a:=qbH D ms0 hd
    by_cases hT:T=[]
    ·have hD:D≠[]:=fun e=>hN (by rw[←h1,←hlen,←htlen,e,hT];rfl)
     have a3:=a.2.1 hD;have:(qa0 (D.foldl qa0 ms0) 46).seen=true:=a3;exact(qbH T _ ht).2.2 this
    ·exact(qbH T _ ht).2.1 hT
   ·by_cases g:k<D.length
    ·left;rw[List.getElem_append_left g];exact hd _ (List.getElem_mem _)
    ·by_cases g2:k=D.length
     ·subst g2;right;refine⟨by simp,?_⟩;rw[List.take_left];exact(qbH D ms0 hd).1
     ·left;rw[List.getElem_append_right (by omega),List.getElem_cons];rw[dif_neg (by omega)];exact ht _ (List.getElem_mem _)
  ·simp only[Prod.mk.injEq] at h;obtain⟨h1,rfl⟩:=h;refine⟨D,by rw[hr] at hl;exact hl,fun e=>hN (by rw[←h1,←hlen,e];rfl),(qbH D ms0 hd).2.1 (fun e=>hN (by rw[←h1,←hlen,e];rfl)),fun k hk=> .inl (hd _ (List.getElem_mem _))⟩
def ngL (l:List UInt8):Bool:=l.head?==some 45
def qax (l:List UInt8):Nat:=l.foldl (fun e c=>e*10+(c.toNat - 48)) 0
def qi5 (r:List UInt8):Int:=match r with| []=>0|_::t=>if ngL t then -(qax (sgd t):Int) else (qax (sgd t):Int)
def tlL (l:List UInt8):List UInt8:=(qel (sgd l)).2
def qdf (l:List UInt8):List UInt8:=(sgd l).take ((sgd l).length - (tlL l).length)
theorem qcD (l:List UInt8):(sgd l=l∧ngL l=false∧(l.getD 0 0≠43∧l.getD 0 0≠45))∨(∃c t,l=c::t∧sgd l=t∧((ngL l=false∧c=43)∨(ngL l=true∧c=45))):=by
 cases l with
 |nil=>left;exact⟨rfl,rfl,by decide,by decide⟩
 |cons c t=>
  by_cases g:c=43∨c=45
  ·right;refine⟨c,t,rfl,by rw[sgd,if_pos g],?_⟩;rcases g with rfl|rfl
   ·left;exact⟨by unfold ngL;rfl,rfl⟩
   ·right;exact⟨by unfold ngL;rfl,rfl⟩
  ·left;refine⟨by rw[sgd,if_neg g],?_,fun e=>g (.inl e),fun e=>g (.inr e)⟩;unfold ngL;simp only[List.head?_cons,beq_eq_false_iff_ne,ne_eq,Option.some.injEq];exact fun e=>g (.inr e)
theorem qh8 (A P r:List UInt8) (k:Nat) (h:k<P.length):(A++(P++r)).getD (A.length+k) 0=P[k]:=by
 rw[List.getD_eq_getElem?_getD,List.getElem?_append_right (by omega),Nat.add_sub_cancel_left,List.getElem?_append_left h,List.getElem?_eq_getElem h];rfl
theorem qfz (A P r:List UInt8) (k:Nat) (h:k≤P.length):((A++(P++r)).take (A.length+k)).drop A.length=P.take k:=by
 rw[List.take_append,List.take_of_length_le (by omega),Nat.add_sub_cancel_left,List.drop_left,List.take_append_of_le_length h]
theorem qdE (l:List UInt8) (h:qbo l=l.length): ∀c∈l,isD c=true:=by
 have:=qcF l;rwa[h,List.take_length] at this
theorem qit (s:ByteArray) (hs:s.size≤2000) (h:qaE s.data.toList=true): ∃a e,qh6 s a e∧Sgn s a (ngL s.data.toList)∧Tail s e (qi5 (tlL s.data.toList))∧mat s a e=qbW (qdf s.data.toList):=by
 have hz:=qau s;unfold qaE at h;rw[Bool.and_eq_true] at h;obtain⟨h1,h2⟩:=h;have hN:(qel (sgd s.data.toList)).1≠0:=by simpa using h1
 obtain⟨P,hP,hP0,hseen,hch⟩:=qgn (sgd s.data.toList) (qel (sgd s.data.toList)).2 (qel (sgd s.data.toList)).1 rfl hN;unfold qdf
 change qd0 (tlL s.data.toList)=true at h2
 change sgd s.data.toList=P++tlL s.data.toList at hP
 have hman:(sgd s.data.toList).take ((sgd s.data.toList).length - (tlL s.data.toList).length)=P:=by rw[hP,List.length_append,Nat.add_sub_cancel,List.take_left]
 rw[hman]
 obtain⟨A,hA,hSg⟩: ∃A:List UInt8,s.data.toList=A++(P++tlL s.data.toList)∧Sgn s A.length (ngL s.data.toList):=by
  rw[←hP];rcases qcD s.data.toList with ⟨g1,g2,g3,g4⟩|⟨c,t,g1,g2,g3⟩
  ·exact⟨[],by rw[g1];rfl,.inl ⟨rfl,g2,g3,g4⟩⟩
  ·refine⟨[c],by rw[g2];exact g1,.inr ⟨rfl,?_⟩⟩;have hb:bt s 0=c:=by unfold bt;rw[g1];rfl
   rw[hb];exact g3
 have hPl:0<P.length:=List.length_pos_iff.2 hP0;obtain⟨r,hr⟩: ∃r,r=tlL s.data.toList:=⟨_,rfl⟩;rw[←hr] at hA h2⊢;have hsz:s.size=A.length+(P.length+r.length):=by rw[←hz,hA,List.length_append,List.length_append]
 have hb: ∀k (hk:k<P.length),bt s (A.length+k)=P[k]:=fun k hk=>by unfold bt;rw[hA];exact qh8 A P r k hk
 have hm: ∀k,k≤P.length→mat s A.length (A.length+k)=qbW (P.take k):=fun k hk=>by unfold mat;rw[hA,qfz A P r k hk]
 refine⟨A.length,A.length+P.length,⟨hs,by omega,by omega,fun i hi hi2=>?_,?_⟩,hSg,?_,?_⟩
 ·obtain⟨k,rfl⟩: ∃k,i=A.length+k:=⟨i - A.length,by omega⟩;rw[hb k (by omega),hm k (by omega)];exact hch k (by omega)
 ·rw[hm _ (Nat.le_refl _),List.take_length];exact hseen
 ·have hbr: ∀k,bt s (A.length+P.length+k)=r.getD k 0:=fun k=>by
   unfold bt;rw[hA,List.getD_eq_getElem?_getD,List.getElem?_append_right (by omega),List.getElem?_append_right (by omega),List.getD_eq_getElem?_getD]
   congr 2;omega
  cases r with
  |nil=>exact .none (by rw[hsz];simp)
  |cons c t=>
   rw[qd0,Bool.and_eq_true,Bool.and_eq_true,Bool.and_eq_true] at h2;obtain⟨c1,⟨c2,c3⟩,c4⟩:=h2;have c2:=of_decide_eq_true c2;have c3:=of_decide_eq_true c3;have c4:qbo (sgd t)=(sgd t).length:=by simpa using c4
   have hds:=qdE _ c4;have hcc:c=101∨c=69:=by simpa using c1
   have hb0:=hbr 0;rw[Nat.add_zero] at hb0
   obtain⟨b,hbt,hbs⟩: ∃b,t.drop b=sgd t∧((b=0∧ngL t=false∧t.getD 0 0≠43∧t.getD 0 0≠45)∨(b=1∧((ngL t=false∧t.getD 0 0=43)∨(ngL t=true∧t.getD 0 0=45)))):=by
    rcases qcD t with ⟨g1,g2,g3,g4⟩|⟨x,u,g1,g2,g3⟩
    ·exact⟨0,by rw[g1];rfl,.inl ⟨rfl,g2,g3,g4⟩⟩
    ·exact⟨1,by rw[g2,g1];rfl,.inr ⟨rfl,by rw[g1] at g3⊢;exact g3⟩⟩
   have hbl:(sgd t).length+b=t.length:=by
    rw[←hbt,List.length_drop]
    have:b≤t.length:=by
     rcases Nat.lt_or_ge t.length b with g|g
     ·have:t.drop b=[]:=List.drop_of_length_le (by omega);rw[hbt] at this;rw[this] at c4 c2;simp[qbo] at c2
     ·exact g
    omega
   have hsz2:s.size=A.length+P.length+(1+b)+(sgd t).length:=by rw[hsz,List.length_cons];omega
   have hdrop:s.data.toList.drop (A.length+P.length+1+b)=sgd t:=by
    rw[hA,←List.append_assoc,←hbt];rw[show A.length+P.length+1+b=(A++P).length+(b+1) by rw[List.length_append];omega,List.drop_append,List.drop_of_length_le (by omega),List.nil_append,show(A++P).length+(b+1) - (A++P).length=b+1 by omega,List.drop_succ_cons]
   have hE:est s (A.length+P.length+1+b) s.size=qax (sgd t):=by
    unfold est;rw[List.take_of_length_le (by rw[hz];exact Nat.le_refl _),hdrop];rfl
   have:=Tail.exp (s:=s) (e:=A.length+P.length) b (ngL t) (by rw[hb0];exact hcc) (by rw[hbr 1];exact hbs) (by omega) (by omega) (fun i hi hi2=>by
    obtain⟨k,rfl⟩: ∃k,i=A.length+P.length+1+b+k:=⟨i - (A.length+P.length+1+b),by omega⟩;have hk:k<(sgd t).length:=by omega
    have hg:bt s (A.length+P.length+1+b+k)=(sgd t)[k]:=by
     unfold bt;rw[←List.getElem_of_eq hdrop (by rw[hdrop];exact hk),List.getElem_drop,List.getD_eq_getElem?_getD,List.getElem?_eq_getElem (by rw[hz];omega)];rfl
    rw[hg]
    exact hds _ (List.getElem_mem _))
   rw[hE] at this;exact this
 ·rw[hm _ (Nat.le_refl _),List.take_length]
end Go.Proofs.YtdeimnnpcfncpaaGreatDoor
end
section
namespace Go.Proofs.YtdeimnnpcfncpaaGreatDoor
open Go
theorem qij (l:List UInt8) (x:Nat):l.foldl (fun e c=>e*10+(c.toNat - 48)) x=x*10^l.length+qax l:=by
 unfold qax
 induction l generalizing x with
 |nil=>simp
 |cons c t ih=>
  rw[List.foldl_cons,List.foldl_cons,ih,ih (0*10+(c.toNat - 48)),List.length_cons,Nat.pow_succ];rw[Nat.add_mul,Nat.zero_mul,Nat.zero_add,Nat.mul_assoc,Nat.mul_comm 10];omega
theorem qbf (a b:List UInt8):qax (a++b)=qax a*10^b.length+qax b:=by
 conv=>lhs;unfold qax
 rw[List.foldl_append,qij];rfl
theorem qaT (c:UInt8) (t:List UInt8):qax (c::t)=(c.toNat - 48)*10^t.length+qax t:=by
 rw[show c::t=[c]++t from rfl,qbf];simp[qax]
theorem qce (c:UInt8):qax [c]=c.toNat - 48:=by simp[qax]
theorem qct (F:Nat):qax (Lib.decDigits F)=F:=by
 induction F using Nat.strongRecOn with
 |_ F ih=>
  rw[Lib.decDigits]
  split
  ·rename_i h
   rw[qce,qaV _ (by omega)];omega
  ·rename_i h
   rw[qbf,ih (F/10) (by omega),qce,qaV _ (by omega)];simp;omega
theorem qmq (l:List UInt8) (h:qaR l):qax (qbY l).1+(qbY l).2*10^l.length=2*qax l:=by
 induction l with
 |nil=>rfl
 |cons c t ih=>
  have hc:=h c (List.mem_cons_self ..);have ht:qaR t:=fun x hx=>h x (List.mem_cons_of_mem _ hx)
  have i:=ih ht;obtain⟨b1,b2,b3⟩:=qd7 t ht;have hd:qbY (c::t)=(UInt8.ofNat (48+(2*(c.toNat - 48)+(qbY t).2)%10)::(qbY t).1,(2*(c.toNat - 48)+(qbY t).2)/10):=qlg (c::t) 0 (by simp);rw[hd];dsimp only;rw[qaT,qaT,qaV _ (by omega),b3,List.length_cons,Nat.pow_succ];generalize (qbY t).2=k at*;generalize qax (qbY t).1=X at*;generalize qax t=Y at*;generalize 10^t.length=Z at*;have e:48+(2*(c.toNat - 48)+k)%10 - 48=(2*(c.toNat - 48)+k)%10:=by omega
  rw[e];obtain⟨d,hd'⟩: ∃d,d=c.toNat - 48:=⟨_,rfl⟩;rw[←hd']
  have key:(2*d+k)%10*Z+(2*d+k)/10*(Z*10)=(2*d+k)*Z:=by
   have:=Nat.div_add_mod (2*d+k) 10
   calc (2*d+k)%10*Z+(2*d+k)/10*(Z*10)=(10*((2*d+k)/10)+(2*d+k)%10)*Z:=by
         rw[Nat.add_mul,Nat.mul_assoc,Nat.mul_comm ((2*d+k)/10) (Z*10),Nat.mul_comm Z 10,Nat.mul_assoc,Nat.mul_comm ((2*d+k)/10) Z];omega
    _=(2*d+k)*Z:=by rw[this]
  rw[Nat.add_mul] at key;have e2:2*(d*Z+Y)=2*d*Z+2*Y:=by rw[Nat.mul_add,Nat.mul_assoc]
  rw[e2];omega
theorem qmi (l:List UInt8) (h:qaR l):qax (qgC l)=2*qax l:=by
 have i:=qmq l h;obtain⟨b1,b2,b3⟩:=qd7 l h;unfold qgC
 split
 ·rename_i h0;rw[h0] at i;omega
 ·rw[qaT,qaV _ (by omega),b3];rw[show 48+(qbY l).2 - 48=(qbY l).2 by omega];omega
theorem qno (n:Nat) (l:List UInt8) (h:qaR l):qax (qlw n l)=2^n*qax l∧qaR (qlw n l):=by
 induction n generalizing l with
 |zero=>exact⟨by simp[qlw],h⟩
 |succ n ih=>
  obtain⟨a,b⟩:=ih (qgC l) (qj2 l h).1;exact⟨by show qax (qlw n (qgC l))=_;rw[a,qmi l h,Nat.pow_succ,Nat.mul_assoc],b⟩
theorem ql6 (l:List UInt8) (h:qaR l): ∀r,r≤1→r*10^l.length+qax l=2*qax (qcH r l).1+(qcH r l).2:=by
 induction l with
 |nil=>intro r _;simp[qcH,qax]
 |cons c t ih=>
  intro r hr;have hc:=h c (List.mem_cons_self ..);have ht:qaR t:=fun x hx=>h x (List.mem_cons_of_mem _ hx)
  have hd:qcH r (c::t)=(UInt8.ofNat (48+(10*r+(c.toNat - 48))/2)::(qcH ((10*r+(c.toNat - 48))%2) t).1,(qcH ((10*r+(c.toNat - 48))%2) t).2):=qkw r (c::t) 0 (by simp);obtain⟨b1,b2,b3⟩:=qg7 t ht ((10*r+(c.toNat - 48))%2) (by omega);have i:=ih ht ((10*r+(c.toNat - 48))%2) (by omega);rw[hd];dsimp only;rw[qaT,qaT,qaV _ (by omega),b3,List.length_cons,Nat.pow_succ];obtain⟨d,hd'⟩: ∃d,d=c.toNat - 48:=⟨_,rfl⟩;rw[←hd'] at i⊢;generalize (qcH ((10*r+d)%2) t).2=k at*;generalize qax (qcH ((10*r+d)%2) t).1=X at*;generalize qax t=Y at*;generalize 10^t.length=Z at*;rw[show 48+(10*r+d)/2 - 48=(10*r+d)/2 by omega];have e1:r*(Z*10)+(d*Z+Y)=(10*r+d)*Z+Y:=by rw[Nat.add_mul,Nat.mul_comm 10 r,Nat.mul_assoc,Nat.mul_comm 10 Z];omega
  have e2:(10*r+d)*Z=2*((10*r+d)/2*Z)+(10*r+d)%2*Z:=by
   conv=>lhs;rw[←Nat.div_add_mod (10*r+d) 2]
   rw[Nat.add_mul,Nat.mul_assoc]
  rw[e1,e2];omega
theorem qnK (l:List UInt8) (h:qaR l):qax (qfw l)*2=qax l*10^qeE l:=by
 have i:=ql6 l h 0 (by decide);obtain⟨b1,b2,b3⟩:=qg7 l h 0 (by decide);unfold qfw qeE
 split
 ·rename_i h0;rw[h0] at i;simp;omega
 ·rw[qbf,qce,show(53:UInt8).toNat - 48=5 from rfl];simp only[List.length_cons,List.length_nil,Nat.zero_add,Nat.pow_one];omega
theorem ql3 (n:Nat) (l:List UInt8) (q:Nat) (h:qaR l): ∃L p,qp5 n l q=(L,q+p)∧qaR L∧qax L*2^n=qax l*10^p∧L.length=l.length+p∧p≤n:=by
 induction n generalizing l q with
 |zero=>exact⟨l,0,rfl,h,by simp,rfl,Nat.le_refl _⟩
 |succ n ih=>
  obtain⟨h1,h2⟩:=qja l h;obtain⟨L,p,e,d,v,s,b⟩:=ih (qfw l) (q+qeE l) h1;have hk:qeE l≤1:=by unfold qeE;split<;>omega
  refine⟨L,qeE l+p,by show qp5 n (qfw l) (q+qeE l)=_;rw[e,Nat.add_assoc],d,?_,by omega,by omega⟩;rw[Nat.pow_succ,←Nat.mul_assoc,v,Nat.mul_right_comm,qnK l h,Nat.mul_assoc,←Nat.pow_add]
end Go.Proofs.YtdeimnnpcfncpaaGreatDoor
end
