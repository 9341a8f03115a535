/- Parts of the proof: F16 F22. -/
import Derived.Test.YtdeimnnpcfncpaaGreatDoorCW12
set_option linter.unusedVariables false
set_option linter.unusedSimpArgs false
set_option maxRecDepth 100000
set_option maxHeartbeats 64000000
section
namespace Go.Proofs.YtdeimnnpcfncpaaGreatDoor
open Go Go.RowKit
theorem qcx (l:List UInt8): ∀c∈l.take (qbk l),isD c=true:=by
 induction l with
 |nil=>intro c h;cases h
 |cons x t ih=>
  intro c h;rw[qfD] at h
  by_cases g:isD x=true
  ·rw[if_pos g,List.take_succ_cons] at h
   cases h with
   |head=>exact g
   |tail _ h=>exact ih c h
  ·rw[if_neg g] at h;cases h
theorem qbE (l:List UInt8) (st:MS) (h: ∀c∈l,isD c=true):(l.foldl qaX st).dot=st.dot∧(l≠[]→(l.foldl qaX st).seen=true)∧(st.seen=true→(l.foldl qaX st).seen=true):=by
 induction l generalizing st with
 |nil=>exact⟨rfl,fun h=>absurd rfl h,fun h=>h⟩
 |cons c t ih=>
  have hc:=(qaJ c).1 (h c (List.mem_cons_self ..));have hne:c≠46:=fun e=>by subst e;exact absurd hc (by decide)
  have h1:(qaX st c).dot=st.dot∧(qaX st c).seen=true:=by
   unfold qaX;rw[if_neg hne]
   split
   ·exact⟨rfl,rfl⟩
   ·split<;>exact⟨rfl,rfl⟩
  have:=ih (qaX st c) (fun x hx=>h x (List.mem_cons_of_mem _ hx));refine⟨this.1.trans h1.1,fun _=>this.2.2 h1.2,fun _=>this.2.2 h1.2⟩
theorem qkO (l r:List UInt8) (N:Nat) (h:qeU l=(N,r)) (hN:N≠0): ∃P,l=P++r∧P≠[]∧(qb9 P).seen=true∧ ∀k (hk:k<P.length),isD P[k]=true∨(P[k]=46∧(qb9 (P.take k)).dot=false):=by
 unfold qeU at h;dsimp only at h;have hd:=qcx l;have hl:l=l.take (qbk l)++l.drop (qbk l):=(List.take_append_drop _ _).symm;have hlen:(l.take (qbk l)).length=qbk l:=List.length_take_of_le (qcF l);generalize l.take (qbk l)=D at*
 split at h
 ·rename_i hr
  simp only[Prod.mk.injEq] at h;obtain⟨h1,rfl⟩:=h;refine⟨D,by rw[hr] at hl;exact hl,fun e=>hN (by rw[←h1,←hlen,e];rfl),(qbE D ms0 hd).2.1 (fun e=>hN (by rw[←h1,←hlen,e];rfl)),fun k hk=> .inl (hd _ (List.getElem_mem _))⟩
 ·rename_i c t hr
  split at h
  ·rename_i hc
   subst hc;simp only[Prod.mk.injEq] at h;obtain⟨h1,rfl⟩:=h;have ht:=qcx t;have htl:t=t.take (qbk t)++t.drop (qbk t):=(List.take_append_drop _ _).symm;have htlen:(t.take (qbk t)).length=qbk t:=List.length_take_of_le (qcF t);generalize t.take (qbk t)=T at*;have hm:(qb9 (D++[46])).dot=true:=by rw[qfT];rfl
   refine⟨D++46::T,?_,by simp,?_,fun k hk=>?_⟩
   ·rw[hr] at hl
    conv=>lhs;rw[hl,htl]
    simp
   ·unfold qb9;rw[List.foldl_append,List.foldl_cons];have a:=qbE D ms0 hd
    by_cases hT:T=[]
    ·have hD:D≠[]:=fun e=>hN (by rw[←h1,←hlen,←htlen,e,hT];rfl)
     have a3:=a.2.1 hD;have:(qaX (D.foldl qaX ms0) 46).seen=true:=a3;exact(qbE T _ ht).2.2 this
    ·exact(qbE T _ ht).2.1 hT
   ·by_cases g:k<D.length
    ·left;rw[List.getElem_append_left g];exact hd _ (List.getElem_mem _)
    ·by_cases g2:k=D.length
     ·subst g2;right;refine⟨by simp,?_⟩;rw[List.take_left];exact(qbE D ms0 hd).1
     ·left;rw[List.getElem_append_right (by omega),List.getElem_cons];rw[dif_neg (by omega)];exact ht _ (List.getElem_mem _)
  ·simp only[Prod.mk.injEq] at h;obtain⟨h1,rfl⟩:=h;refine⟨D,by rw[hr] at hl;exact hl,fun e=>hN (by rw[←h1,←hlen,e];rfl),(qbE D ms0 hd).2.1 (fun e=>hN (by rw[←h1,←hlen,e];rfl)),fun k hk=> .inl (hd _ (List.getElem_mem _))⟩
def ngL (l:List UInt8):Bool:=l.head?==some 45
def qaz (l:List UInt8):Nat:=l.foldl (fun e c=>e*10+(c.toNat - 48)) 0
def qjh (r:List UInt8):Int:=match r with| []=>0|_::t=>if ngL t then -(qaz (sgd t):Int) else (qaz (sgd t):Int)
def tlL (l:List UInt8):List UInt8:=(qeU (sgd l)).2
def qd7 (l:List UInt8):List UInt8:=(sgd l).take ((sgd l).length - (tlL l).length)
theorem qfI (l:List UInt8):(sgd l=l∧ngL l=false∧(l.getD 0 0≠43∧l.getD 0 0≠45))∨(∃c t,l=c::t∧sgd l=t∧((ngL l=false∧c=43)∨(ngL l=true∧c=45))):=by
 cases l with
 |nil=>left;exact⟨rfl,rfl,by decide,by decide⟩
 |cons c t=>
  by_cases g:c=43∨c=45
  ·right;refine⟨c,t,rfl,by rw[sgd,if_pos g],?_⟩;rcases g with rfl|rfl
   ·left;exact⟨by unfold ngL;rfl,rfl⟩
   ·right;exact⟨by unfold ngL;rfl,rfl⟩
  ·left;refine⟨by rw[sgd,if_neg g],?_,fun e=>g (.inl e),fun e=>g (.inr e)⟩;unfold ngL;simp only[List.head?_cons,beq_eq_false_iff_ne,ne_eq,Option.some.injEq];exact fun e=>g (.inr e)
theorem qmF (A P r:List UInt8) (k:Nat) (h:k<P.length):(A++(P++r)).getD (A.length+k) 0=P[k]:=by
 rw[List.getD_eq_getElem?_getD,List.getElem?_append_right (by omega),Nat.add_sub_cancel_left,List.getElem?_append_left h,List.getElem?_eq_getElem h];rfl
theorem qg1 (A P r:List UInt8) (k:Nat) (h:k≤P.length):((A++(P++r)).take (A.length+k)).drop A.length=P.take k:=by
 rw[List.take_append,List.take_of_length_le (by omega),Nat.add_sub_cancel_left,List.drop_left,List.take_append_of_le_length h]
theorem qfN (l:List UInt8) (h:qbk l=l.length): ∀c∈l,isD c=true:=by
 have:=qcx l;rwa[h,List.take_length] at this
end Go.Proofs.YtdeimnnpcfncpaaGreatDoor
end
section
namespace Go.Proofs.YtdeimnnpcfncpaaGreatDoor
open Go
theorem qiE (l:List UInt8) (x:Nat):l.foldl (fun e c=>e*10+(c.toNat - 48)) x=x*10^l.length+qaz l:=by
 unfold qaz
 induction l generalizing x with
 |nil=>simp
 |cons c t ih=>
  rw[List.foldl_cons,List.foldl_cons,ih,ih (0*10+(c.toNat - 48)),List.length_cons,Nat.pow_succ];rw[Nat.add_mul,Nat.zero_mul,Nat.zero_add,Nat.mul_assoc,Nat.mul_comm 10];omega
theorem qa9 (a b:List UInt8):qaz (a++b)=qaz a*10^b.length+qaz b:=by
 conv=>lhs;unfold qaz
 rw[List.foldl_append,qiE];rfl
theorem qaO (c:UInt8) (t:List UInt8):qaz (c::t)=(c.toNat - 48)*10^t.length+qaz t:=by
 rw[show c::t=[c]++t from rfl,qa9];simp[qaz]
theorem qb5 (c:UInt8):qaz [c]=c.toNat - 48:=by simp[qaz]
theorem qck (F:Nat):qaz (Lib.decDigits F)=F:=by
 induction F using Nat.strongRecOn with
 |_ F ih=>
  rw[Lib.decDigits]
  split
  ·rename_i h
   rw[qb5,qaS _ (by omega)];omega
  ·rename_i h
   rw[qa9,ih (F/10) (by omega),qb5,qaS _ (by omega)];simp;omega
theorem qlC (l:List UInt8) (h:qaT l):qaz (qbO l).1+(qbO l).2*10^l.length=2*qaz l:=by
 induction l with
 |nil=>rfl
 |cons c t ih=>
  have hc:=h c (List.mem_cons_self ..);have ht:qaT t:=fun x hx=>h x (List.mem_cons_of_mem _ hx)
  have i:=ih ht;obtain⟨b1,b2,b3⟩:=qd3 t ht;have hd:qbO (c::t)=(UInt8.ofNat (48+(2*(c.toNat - 48)+(qbO t).2)%10)::(qbO t).1,(2*(c.toNat - 48)+(qbO t).2)/10):=qjs (c::t) 0 (by simp);rw[hd];dsimp only;rw[qaO,qaO,qaS _ (by omega),b3,List.length_cons,Nat.pow_succ];generalize (qbO t).2=k at*;generalize qaz (qbO t).1=X at*;generalize qaz t=Y at*;generalize 10^t.length=Z at*;have e:48+(2*(c.toNat - 48)+k)%10 - 48=(2*(c.toNat - 48)+k)%10:=by omega
  rw[e];obtain⟨d,hd'⟩: ∃d,d=c.toNat - 48:=⟨_,rfl⟩;rw[←hd']
  have key:(2*d+k)%10*Z+(2*d+k)/10*(Z*10)=(2*d+k)*Z:=by
   have:=Nat.div_add_mod (2*d+k) 10
   calc (2*d+k)%10*Z+(2*d+k)/10*(Z*10)=(10*((2*d+k)/10)+(2*d+k)%10)*Z:=by
         rw[Nat.add_mul,Nat.mul_assoc,Nat.mul_comm ((2*d+k)/10) (Z*10),Nat.mul_comm Z 10,Nat.mul_assoc,Nat.mul_comm ((2*d+k)/10) Z];omega
    _=(2*d+k)*Z:=by rw[this]
  rw[Nat.add_mul] at key;have e2:2*(d*Z+Y)=2*d*Z+2*Y:=by rw[Nat.mul_add,Nat.mul_assoc]
  rw[e2];omega
theorem qlV (l:List UInt8) (h:qaT l):qaz (qgc l)=2*qaz l:=by
 have i:=qlC l h;obtain⟨b1,b2,b3⟩:=qd3 l h;unfold qgc
 split
 ·rename_i h0;rw[h0] at i;omega
 ·rw[qaO,qaS _ (by omega),b3];rw[show 48+(qbO l).2 - 48=(qbO l).2 by omega];omega
theorem qlT (n:Nat) (l:List UInt8) (h:qaT l):qaz (qkV n l)=2^n*qaz l∧qaT (qkV n l):=by
 induction n generalizing l with
 |zero=>exact⟨by simp[qkV],h⟩
 |succ n ih=>
  obtain⟨a,b⟩:=ih (qgc l) (qkN l h).1;exact⟨by show qaz (qkV n (qgc l))=_;rw[a,qlV l h,Nat.pow_succ,Nat.mul_assoc],b⟩
theorem qlE (l:List UInt8) (h:qaT l): ∀r,r≤1→r*10^l.length+qaz l=2*qaz (qcr r l).1+(qcr r l).2:=by
 induction l with
 |nil=>intro r _;simp[qcr,qaz]
 |cons c t ih=>
  intro r hr;have hc:=h c (List.mem_cons_self ..);have ht:qaT t:=fun x hx=>h x (List.mem_cons_of_mem _ hx)
  have hd:qcr r (c::t)=(UInt8.ofNat (48+(10*r+(c.toNat - 48))/2)::(qcr ((10*r+(c.toNat - 48))%2) t).1,(qcr ((10*r+(c.toNat - 48))%2) t).2):=qjd r (c::t) 0 (by simp);obtain⟨b1,b2,b3⟩:=qgD t ht ((10*r+(c.toNat - 48))%2) (by omega);have i:=ih ht ((10*r+(c.toNat - 48))%2) (by omega);rw[hd];dsimp only;rw[qaO,qaO,qaS _ (by omega),b3,List.length_cons,Nat.pow_succ];obtain⟨d,hd'⟩: ∃d,d=c.toNat - 48:=⟨_,rfl⟩;rw[←hd'] at i⊢;generalize (qcr ((10*r+d)%2) t).2=k at*;generalize qaz (qcr ((10*r+d)%2) t).1=X at*;generalize qaz t=Y at*;generalize 10^t.length=Z at*;rw[show 48+(10*r+d)/2 - 48=(10*r+d)/2 by omega];have e1:r*(Z*10)+(d*Z+Y)=(10*r+d)*Z+Y:=by rw[Nat.add_mul,Nat.mul_comm 10 r,Nat.mul_assoc,Nat.mul_comm 10 Z];omega
  have e2:(10*r+d)*Z=2*((10*r+d)/2*Z)+(10*r+d)%2*Z:=by
   conv=>lhs;rw[←Nat.div_add_mod (10*r+d) 2]
   rw[Nat.add_mul,Nat.mul_assoc]
  rw[e1,e2];omega
theorem qlF (l:List UInt8) (h:qaT l):qaz (qeA l)*2=qaz l*10^qef l:=by
 have i:=qlE l h 0 (by decide);obtain⟨b1,b2,b3⟩:=qgD l h 0 (by decide);unfold qeA qef
 split
 ·rename_i h0;rw[h0] at i;simp;omega
 ·rw[qa9,qb5,show(53:UInt8).toNat - 48=5 from rfl];simp only[List.length_cons,List.length_nil,Nat.zero_add,Nat.pow_one];omega
theorem qk5 (n:Nat) (l:List UInt8) (q:Nat) (h:qaT l): ∃L p,qo5 n l q=(L,q+p)∧qaT L∧qaz L*2^n=qaz l*10^p∧L.length=l.length+p∧p≤n:=by
 induction n generalizing l q with
 |zero=>exact⟨l,0,rfl,h,by simp,rfl,Nat.le_refl _⟩
 |succ n ih=>
  obtain⟨h1,h2⟩:=qjK l h;obtain⟨L,p,e,d,v,s,b⟩:=ih (qeA l) (q+qef l) h1;have hk:qef l≤1:=by unfold qef;split<;>omega
  refine⟨L,qef l+p,by show qo5 n (qeA l) (q+qef l)=_;rw[e,Nat.add_assoc],d,?_,by omega,by omega⟩;rw[Nat.pow_succ,←Nat.mul_assoc,v,Nat.mul_right_comm,qlF l h,Nat.mul_assoc,←Nat.pow_add]
end Go.Proofs.YtdeimnnpcfncpaaGreatDoor
end
