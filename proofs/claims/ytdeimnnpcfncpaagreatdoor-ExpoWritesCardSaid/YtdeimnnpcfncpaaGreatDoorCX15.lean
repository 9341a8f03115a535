/- Parts of the proof: F16 N1 F22 LK19. -/
import Derived.Test.YtdeimnnpcfncpaaGreatDoorCX14
set_option linter.unusedVariables false
set_option linter.unusedSimpArgs false
set_option maxRecDepth 100000
set_option maxHeartbeats 64000000
section
namespace Go.Proofs.YtdeimnnpcfncpaaGreatDoor
open Go Go.RowKit
theorem qcV (l:List UInt8): ∀c∈l.take (qbv l),isD c=true:=by
 induction l with
 |nil=>intro c h;cases h
 |cons x t ih=>
  intro c h;rw[qgH] at h
  by_cases g:isD x=true
  ·rw[if_pos g,List.take_succ_cons] at h
   cases h with
   |head=>exact g
   |tail _ h=>exact ih c h
  ·rw[if_neg g] at h;cases h
theorem qbJ (l:List UInt8) (st:MS) (h: ∀c∈l,isD c=true):(l.foldl qa1 st).dot=st.dot∧(l≠[]→(l.foldl qa1 st).seen=true)∧(st.seen=true→(l.foldl qa1 st).seen=true):=by
 induction l generalizing st with
 |nil=>exact⟨rfl,fun h=>absurd rfl h,fun h=>h⟩
 |cons c t ih=>
  have hc:=(qaA c).1 (h c (List.mem_cons_self ..));have hne:c≠46:=fun e=>by subst e;exact absurd hc (by decide)
  have h1:(qa1 st c).dot=st.dot∧(qa1 st c).seen=true:=by
   unfold qa1;rw[if_neg hne]
   split
   ·exact⟨rfl,rfl⟩
   ·split<;>exact⟨rfl,rfl⟩
  have:=ih (qa1 st c) (fun x hx=>h x (List.mem_cons_of_mem _ hx));refine⟨this.1.trans h1.1,fun _=>this.2.2 h1.2,fun _=>this.2.2 h1.2⟩
theorem qli (l r:List UInt8) (N:Nat) (h:qfu l=(N,r)) (hN:N≠0): ∃P,l=P++r∧P≠[]∧(qcu P).seen=true∧ ∀k (hk:k<P.length),isD P[k]=true∨(P[k]=46∧(qcu (P.take k)).dot=false):=by
 unfold qfu at h;dsimp only at h;have hd:=qcV l;have hl:l=l.take (qbv l)++l.drop (qbv l):=(List.take_append_drop _ _).symm;have hlen:(l.take (qbv l)).length=qbv l:=List.length_take_of_le (qdr l);generalize l.take (qbv l)=D at*
 split at h
 ·rename_i hr
  simp only[Prod.mk.injEq] at h;obtain⟨h1,rfl⟩:=h;refine⟨D,by rw[hr] at hl;exact hl,fun e=>hN (by rw[←h1,←hlen,e];rfl),(qbJ D ms0 hd).2.1 (fun e=>hN (by rw[←h1,←hlen,e];rfl)),fun k hk=> .inl (hd _ (List.getElem_mem _))⟩
 ·rename_i c t hr
  split at h
  ·rename_i hc
   subst hc;simp only[Prod.mk.injEq] at h;obtain⟨h1,rfl⟩:=h;have ht:=qcV t;have htl:t=t.take (qbv t)++t.drop (qbv t):=(List.take_append_drop _ _).symm;have htlen:(t.take (qbv t)).length=qbv t:=List.length_take_of_le (qdr t);generalize t.take (qbv t)=T at*;have hm:(qcu (D++[46])).dot=true:=by rw[qgr];rfl
   refine⟨D++46::T,?_,by simp,?_,fun k hk=>?_⟩
   ·rw[hr] at hl
    conv=>lhs;rw[hl,htl]
    simp
   ·unfold qcu;rw[List.foldl_append,List.foldl_cons];have a:=qbJ D ms0 hd
    by_cases hT:T=[]
    ·have hD:D≠[]:=fun e=>hN (by rw[←h1,←hlen,←htlen,e,hT];rfl)
     have a3:=a.2.1 hD;have:(qa1 (D.foldl qa1 ms0) 46).seen=true:=a3;exact(qbJ T _ ht).2.2 this
    ·exact(qbJ T _ ht).2.1 hT
   ·by_cases g:k<D.length
    ·left;rw[List.getElem_append_left g];exact hd _ (List.getElem_mem _)
    ·by_cases g2:k=D.length
     ·subst g2;right;refine⟨by simp,?_⟩;rw[List.take_left];exact(qbJ D ms0 hd).1
     ·left;rw[List.getElem_append_right (by omega),List.getElem_cons];rw[dif_neg (by omega)];exact ht _ (List.getElem_mem _)
  ·simp only[Prod.mk.injEq] at h;obtain⟨h1,rfl⟩:=h;refine⟨D,by rw[hr] at hl;exact hl,fun e=>hN (by rw[←h1,←hlen,e];rfl),(qbJ D ms0 hd).2.1 (fun e=>hN (by rw[←h1,←hlen,e];rfl)),fun k hk=> .inl (hd _ (List.getElem_mem _))⟩
def ngL (l:List UInt8):Bool:=l.head?==some 45
def qak (l:List UInt8):Nat:=l.foldl (fun e c=>e*10+(c.toNat - 48)) 0
def qll (r:List UInt8):Int:=match r with| []=>0|_::t=>if ngL t then -(qak (sgd t):Int) else (qak (sgd t):Int)
def tlL (l:List UInt8):List UInt8:=(qfu (sgd l)).2
def qeO (l:List UInt8):List UInt8:=(sgd l).take ((sgd l).length - (tlL l).length)
theorem qgC (l:List UInt8):(sgd l=l∧ngL l=false∧(l.getD 0 0≠43∧l.getD 0 0≠45))∨(∃c t,l=c::t∧sgd l=t∧((ngL l=false∧c=43)∨(ngL l=true∧c=45))):=by
 cases l with
 |nil=>left;exact⟨rfl,rfl,by decide,by decide⟩
 |cons c t=>
  by_cases g:c=43∨c=45
  ·right;refine⟨c,t,rfl,by rw[sgd,if_pos g],?_⟩;rcases g with rfl|rfl
   ·left;exact⟨by unfold ngL;rfl,rfl⟩
   ·right;exact⟨by unfold ngL;rfl,rfl⟩
  ·left;refine⟨by rw[sgd,if_neg g],?_,fun e=>g (.inl e),fun e=>g (.inr e)⟩;unfold ngL;simp only[List.head?_cons,beq_eq_false_iff_ne,ne_eq,Option.some.injEq];exact fun e=>g (.inr e)
theorem qn3 (A P r:List UInt8) (k:Nat) (h:k<P.length):(A++(P++r)).getD (A.length+k) 0=P[k]:=by
 rw[List.getD_eq_getElem?_getD,List.getElem?_append_right (by omega),Nat.add_sub_cancel_left,List.getElem?_append_left h,List.getElem?_eq_getElem h];rfl
theorem qiN (A P r:List UInt8) (k:Nat) (h:k≤P.length):((A++(P++r)).take (A.length+k)).drop A.length=P.take k:=by
 rw[List.take_append,List.take_of_length_le (by omega),Nat.add_sub_cancel_left,List.drop_left,List.take_append_of_le_length h]
theorem qgl (l:List UInt8) (h:qbv l=l.length): ∀c∈l,isD c=true:=by
 have:=qcV l;rwa[h,List.take_length] at this
end Go.Proofs.YtdeimnnpcfncpaaGreatDoor
end
section
namespace Go.Proofs.YtdeimnnpcfncpaaGreatDoor
open Go Ieee
theorem qsI:INF=9218868437227405312:=rfl
theorem qtX (v:Nat):qfL v=false↔v%9223372036854775808≤INF:=by
 unfold qfL;rw[decide_eq_false_iff_not];omega
theorem qt5 (v:Nat):qfL v=true↔INF<v%9223372036854775808:=by
 unfold qfL;rw[decide_eq_true_iff]
theorem qtV (v:Nat) (_:v<18446744073709551616):kindN v=4↔qfL v=true:=by
 rw[qt5,qsI];unfold kindN
 by_cases h1:v/4503599627370496%2048=2047
 ·rw[if_pos h1]
  by_cases h2:v%4503599627370496=0
  ·rw[if_pos h2];constructor<;>intro h<;>omega
  ·rw[if_neg h2];constructor<;>intro h<;>omega
 ·rw[if_neg h1];constructor
  ·intro h;exfalso;revert h
   split
   ·decide
   ·split<;>decide
  ·intro h;omega
end Go.Proofs.YtdeimnnpcfncpaaGreatDoor
end
section
namespace Go.Proofs.YtdeimnnpcfncpaaGreatDoor
open Go
theorem qiV (l:List UInt8) (x:Nat):l.foldl (fun e c=>e*10+(c.toNat - 48)) x=x*10^l.length+qak l:=by
 unfold qak
 induction l generalizing x with
 |nil=>simp
 |cons c t ih=>
  rw[List.foldl_cons,List.foldl_cons,ih,ih (0*10+(c.toNat - 48)),List.length_cons,Nat.pow_succ];rw[Nat.add_mul,Nat.zero_mul,Nat.zero_add,Nat.mul_assoc,Nat.mul_comm 10];omega
theorem qay (a b:List UInt8):qak (a++b)=qak a*10^b.length+qak b:=by
 conv=>lhs;unfold qak
 rw[List.foldl_append,qiV];rfl
theorem qaE (c:UInt8) (t:List UInt8):qak (c::t)=(c.toNat - 48)*10^t.length+qak t:=by
 rw[show c::t=[c]++t from rfl,qay];simp[qak]
theorem qcl (c:UInt8):qak [c]=c.toNat - 48:=by simp[qak]
theorem qbY (F:Nat):qak (Lib.decDigits F)=F:=by
 induction F using Nat.strongRecOn with
 |_ F ih=>
  rw[Lib.decDigits]
  split
  ·rename_i h
   rw[qcl,qaL _ (by omega)];omega
  ·rename_i h
   rw[qay,ih (F/10) (by omega),qcl,qaL _ (by omega)];simp;omega
theorem qm9 (l:List UInt8) (h:qaK l):qak (qb0 l).1+(qb0 l).2*10^l.length=2*qak l:=by
 induction l with
 |nil=>rfl
 |cons c t ih=>
  have hc:=h c (List.mem_cons_self ..);have ht:qaK t:=fun x hx=>h x (List.mem_cons_of_mem _ hx)
  have i:=ih ht;obtain⟨b1,b2,b3⟩:=qeE t ht;have hd:qb0 (c::t)=(UInt8.ofNat (48+(2*(c.toNat - 48)+(qb0 t).2)%10)::(qb0 t).1,(2*(c.toNat - 48)+(qb0 t).2)/10):=qlP (c::t) 0 (by simp);rw[hd];dsimp only;rw[qaE,qaE,qaL _ (by omega),b3,List.length_cons,Nat.pow_succ];generalize (qb0 t).2=k at*;generalize qak (qb0 t).1=X at*;generalize qak t=Y at*;generalize 10^t.length=Z at*;have e:48+(2*(c.toNat - 48)+k)%10 - 48=(2*(c.toNat - 48)+k)%10:=by omega
  rw[e];obtain⟨d,hd'⟩: ∃d,d=c.toNat - 48:=⟨_,rfl⟩;rw[←hd']
  have key:(2*d+k)%10*Z+(2*d+k)/10*(Z*10)=(2*d+k)*Z:=by
   have:=Nat.div_add_mod (2*d+k) 10
   calc (2*d+k)%10*Z+(2*d+k)/10*(Z*10)=(10*((2*d+k)/10)+(2*d+k)%10)*Z:=by
         rw[Nat.add_mul,Nat.mul_assoc,Nat.mul_comm ((2*d+k)/10) (Z*10),Nat.mul_comm Z 10,Nat.mul_assoc,Nat.mul_comm ((2*d+k)/10) Z];omega
    _=(2*d+k)*Z:=by rw[this]
  rw[Nat.add_mul] at key;have e2:2*(d*Z+Y)=2*d*Z+2*Y:=by rw[Nat.mul_add,Nat.mul_assoc]
  rw[e2];omega
theorem qnr (l:List UInt8) (h:qaK l):qak (qg4 l)=2*qak l:=by
 have i:=qm9 l h;obtain⟨b1,b2,b3⟩:=qeE l h;unfold qg4
 split
 ·rename_i h0;rw[h0] at i;omega
 ·rw[qaE,qaL _ (by omega),b3];rw[show 48+(qb0 l).2 - 48=(qb0 l).2 by omega];omega
theorem qnt (n:Nat) (l:List UInt8) (h:qaK l):qak (qma n l)=2^n*qak l∧qaK (qma n l):=by
 induction n generalizing l with
 |zero=>exact⟨by simp[qma],h⟩
 |succ n ih=>
  obtain⟨a,b⟩:=ih (qg4 l) (ql4 l h).1;exact⟨by show qak (qma n (qg4 l))=_;rw[a,qnr l h,Nat.pow_succ,Nat.mul_assoc],b⟩
theorem qnD (l:List UInt8) (h:qaK l): ∀r,r≤1→r*10^l.length+qak l=2*qak (qc7 r l).1+(qc7 r l).2:=by
 induction l with
 |nil=>intro r _;simp[qc7,qak]
 |cons c t ih=>
  intro r hr;have hc:=h c (List.mem_cons_self ..);have ht:qaK t:=fun x hx=>h x (List.mem_cons_of_mem _ hx)
  have hd:qc7 r (c::t)=(UInt8.ofNat (48+(10*r+(c.toNat - 48))/2)::(qc7 ((10*r+(c.toNat - 48))%2) t).1,(qc7 ((10*r+(c.toNat - 48))%2) t).2):=qj1 r (c::t) 0 (by simp);obtain⟨b1,b2,b3⟩:=qg6 t ht ((10*r+(c.toNat - 48))%2) (by omega);have i:=ih ht ((10*r+(c.toNat - 48))%2) (by omega);rw[hd];dsimp only;rw[qaE,qaE,qaL _ (by omega),b3,List.length_cons,Nat.pow_succ];obtain⟨d,hd'⟩: ∃d,d=c.toNat - 48:=⟨_,rfl⟩;rw[←hd'] at i⊢;generalize (qc7 ((10*r+d)%2) t).2=k at*;generalize qak (qc7 ((10*r+d)%2) t).1=X at*;generalize qak t=Y at*;generalize 10^t.length=Z at*;rw[show 48+(10*r+d)/2 - 48=(10*r+d)/2 by omega];have e1:r*(Z*10)+(d*Z+Y)=(10*r+d)*Z+Y:=by rw[Nat.add_mul,Nat.mul_comm 10 r,Nat.mul_assoc,Nat.mul_comm 10 Z];omega
  have e2:(10*r+d)*Z=2*((10*r+d)/2*Z)+(10*r+d)%2*Z:=by
   conv=>lhs;rw[←Nat.div_add_mod (10*r+d) 2]
   rw[Nat.add_mul,Nat.mul_assoc]
  rw[e1,e2];omega
theorem qnA (l:List UInt8) (h:qaK l):qak (qfi l)*2=qak l*10^qfe l:=by
 have i:=qnD l h 0 (by decide);obtain⟨b1,b2,b3⟩:=qg6 l h 0 (by decide);unfold qfi qfe
 split
 ·rename_i h0;rw[h0] at i;simp;omega
 ·rw[qay,qcl,show(53:UInt8).toNat - 48=5 from rfl];simp only[List.length_cons,List.length_nil,Nat.zero_add,Nat.pow_one];omega
theorem qm6 (n:Nat) (l:List UInt8) (q:Nat) (h:qaK l): ∃L p,qqS n l q=(L,q+p)∧qaK L∧qak L*2^n=qak l*10^p∧L.length=l.length+p∧p≤n:=by
 induction n generalizing l q with
 |zero=>exact⟨l,0,rfl,h,by simp,rfl,Nat.le_refl _⟩
 |succ n ih=>
  obtain⟨h1,h2⟩:=qkz l h;obtain⟨L,p,e,d,v,s,b⟩:=ih (qfi l) (q+qfe l) h1;have hk:qfe l≤1:=by unfold qfe;split<;>omega
  refine⟨L,qfe l+p,by show qqS n (qfi l) (q+qfe l)=_;rw[e,Nat.add_assoc],d,?_,by omega,by omega⟩;rw[Nat.pow_succ,←Nat.mul_assoc,v,Nat.mul_right_comm,qnA l h,Nat.mul_assoc,←Nat.pow_add]
end Go.Proofs.YtdeimnnpcfncpaaGreatDoor
end
section
namespace Go.Proofs.YtdeimnnpcfncpaaGreatDoor.L
open Go.RowKit
theorem qlN (d:Nat) (h:d<10):Utf8.encode (48+(d:Int))=⟨#[UInt8.ofNat (48+d)]⟩:=by
 have: ∀d:Fin 10,Utf8.encode (48+(d.val:Int))=⟨#[UInt8.ofNat (48+d.val)]⟩:=by decide
 exact this ⟨d,h⟩
def qmb (T:List UInt8) (m:Nat) (s:ByteArray):Prop:=(m=0∧s.data.toList≠[]∧s.data.toList=T)∨((s.data.toList=[]∨0<m)∧Lib.decDigits m++s.data.toList=T)
theorem qmb.size {T:List UInt8} {m:Nat} {s:ByteArray} (h:qmb T m s) (hT:T.length≤20):s.size≤20:=by
 have:s.size=s.data.toList.length:=by simp
 rcases h with ⟨_,_,h⟩|⟨_,h⟩
 ·rw[this,h];exact hT
 ·rw[←h,List.length_append] at hT;omega
theorem qmb.step {T:List UInt8} {m:Nat} {s:ByteArray} (h:qmb T m s) (hm:s.data.toList=[]∨0<m):qmb T (m/10) (⟨#[UInt8.ofNat (48+m%10)]⟩++s):=by
 have ha:(⟨#[UInt8.ofNat (48+m%10)]⟩++s:ByteArray).data.toList=UInt8.ofNat (48+m%10)::s.data.toList:=by simp
 rcases h with ⟨h0,h1,_⟩|⟨_,h⟩
 ·rcases hm with hm|hm
  ·exact absurd hm h1
  ·omega
 ·unfold qmb;rw[ha];rw[Lib.decDigits] at h
  by_cases h10:m<10
  ·rw[dif_pos h10] at h;left;refine⟨by omega,by simp,?_⟩;rw[Nat.mod_eq_of_lt h10];exact h
  ·rw[dif_neg h10] at h;right;exact⟨.inr (by omega),by rw[←h];simp⟩
theorem qmb.fin {T:List UInt8} {m:Nat} {s:ByteArray} (h:qmb T m s) (hm:m=0) (h1:s.data.toList≠[]):s.data.toList=T:=by
 rcases h with ⟨_,_,h⟩|⟨h,_⟩
 ·exact h
 ·rcases h with h|h
  ·exact absurd h h1
  ·omega
theorem qmL (n:Int) (h0: -9223372036854775808≤n) (h1:n<0) (s0:ByteArray) (hs:s0=⟨(Lib.itoa n).toArray⟩) (w:World):
 Calls Tryz.prog 148 #[.int .i64 n] w fun e w'=>e= .returned (.string s0)∧w=w':=by
 replace hs:=Lh hs;have t1:decide (n≥0)=false:=dF (by omega);obtain⟨T,hT⟩: ∃T,Hid (Lib.decDigits n.natAbs=T):=⟨_,Lh rfl⟩;have hTl:T.length≤20:=by rw[←hT.out];exact qfK _ 19 (by omega)
 go_enter Tryz.func148,Tryz.ntmps148;go_wp2_with fail;go_loop [0,4] (fun s0 s4=> ∃(m:Nat) (s:ByteArray),m≤9223372036854775808∧s0= .int .i64 (-(m:Int))∧s4= .string s∧Hid (qmb T m s)∧Hid (s.data.toList≠[]∨0<m)) (fun v _=>(intOf v).natAbs)
 case atStart=>exact⟨n.natAbs,_,by omega,congrArg (Value.int IntKind.i64) (by omega),rfl,Lh (.inr ⟨.inr (by omega),by rw[←hT.out];simp⟩),Lh (.inr (by omega))⟩
 case round=>
  obtain⟨m,s,hm,rfl,rfl,hI,hne⟩:=hrel;have hsz:=hI.out.size hTl
  by_cases hz:0<m
  ·have t2:decide (-(m:Int)<0)=true:=dT (by omega);have he:=qlN (m%10) (Nat.mod_lt _ (by omega));rw[show(48+((m%10:Nat):Int))=48+(m:Int)%10 by omega] at he;have hI2:=Lh (hI.out.step (.inr hz));obtain⟨q,hq⟩: ∃q:Nat,Hid (q=m/10):=⟨_,Lh rfl⟩;rw[←hq.out] at hI2;obtain⟨c,hc⟩: ∃c:ByteArray,Hid (c=⟨#[UInt8.ofNat (48+m%10)]⟩):=⟨_,Lh rfl⟩;rw[←hc.out] at hI2 he;have hcz:c.size=1:=by rw[hc.out];rfl
   go_wp2_with fail;go_round
   case measure=>simp[intOf];omega
   case rel=>exact⟨q,_,by have:=hq.out;omega,congrArg (Value.int IntKind.i64) (by have:=hq.out;omega),rfl,hI2,Lh (.inl (by rw[hc.out];simp))⟩
  ·have t2:decide (-(m:Int)<0)=false:=dF (by omega);go_wp2_with fail;go_ret;refine⟨?_,rfl⟩;show Ending.returned (Value.string (⟨#[45]⟩++s))=_;have h:=hI.out.fin (by omega) (hne.out.resolve_right hz);rw[hs.out];refine congrArg (fun z=>Ending.returned (Value.string z)) ?_;apply ByteArray.ext;apply Array.ext';rw[ByteArray.data_append,Array.toList_append,h,←hT.out];unfold Lib.itoa;rw[if_pos h1];rfl
def qtR (v s:Value):Nat:=(intOf v).natAbs+match s with| .string b=>if b.size=0 then 1 else 0|_=>0
theorem qlz (m:Nat) (z:Int) (c s:ByteArray) (hz:z.natAbs=m/10) (hc:c.size=1) (h:s=⟨#[]⟩∨0<m):qtR (.int .i64 z) (.string (c++s))<qtR (.int .i64 (-(m:Int))) (.string s):=by
 show z.natAbs+(if (c++s:ByteArray).size=0 then 1 else 0)<(-(m:Int)).natAbs+(if s.size=0 then 1 else 0);rw[ByteArray.size_append,hc,if_neg (by omega)]
 by_cases h0:0<m
 ·split<;>omega
 ·obtain rfl:=h.resolve_right h0;rw[if_pos (show ByteArray.size ⟨#[]⟩=0 from rfl)];omega
theorem qnI (n:Int) (h0:n≤9223372036854775807) (h1:0≤n) (s0:ByteArray) (hs:s0=⟨(Lib.itoa n).toArray⟩) (w:World):
 Calls Tryz.prog 148 #[.int .i64 n] w fun e w'=>e= .returned (.string s0)∧w=w':=by
 replace hs:=Lh hs;have t1:decide (n≥0)=true:=dT (by omega);obtain⟨T,hT⟩: ∃T,Hid (Lib.decDigits n.natAbs=T):=⟨_,Lh rfl⟩;have hTl:T.length≤20:=by rw[←hT.out];exact qfK _ 19 (by omega)
 go_enter Tryz.func148,Tryz.ntmps148;go_wp2_with fail;go_loop [0,3] (fun s0 s4=> ∃(m:Nat) (s:ByteArray),m≤9223372036854775808∧s0= .int .i64 (-(m:Int))∧s4= .string s∧Hid (qmb T m s)) qtR
 case atStart=>exact⟨n.natAbs,_,by omega,congrArg (Value.int IntKind.i64) (by omega),rfl,Lh (.inr ⟨.inl rfl,by rw[←hT.out];simp⟩)⟩
 case round=>
  obtain⟨m,s,hm,rfl,rfl,hI⟩:=hrel;have hsz:=hI.out.size hTl
  by_cases hz:s.data.toList=[]∨0<m
  ·have he:=qlN (m%10) (Nat.mod_lt _ (by omega));rw[show(48+((m%10:Nat):Int))=48+(m:Int)%10 by omega] at he;have hI2:=Lh (hI.out.step hz);obtain⟨q,hq⟩: ∃q:Nat,Hid (q=m/10):=⟨_,Lh rfl⟩;rw[←hq.out] at hI2;obtain⟨c,hc⟩: ∃c:ByteArray,Hid (c=⟨#[UInt8.ofNat (48+m%10)]⟩):=⟨_,Lh rfl⟩;rw[←hc.out] at hI2 he;have hcz:c.size=1:=by rw[hc.out];rfl
   by_cases he0:s.data.toList=[]
   ·have hse:s=⟨#[]⟩:=ByteArray.ext (Array.ext' he0);have hle:Hid ((c++s:ByteArray).size=1):=by show _=_;rw[ByteArray.size_append,hcz,hse];rfl
    subst hse;clear hz;go_wp2_with fail;go_round
    case measure=>exact qlz m _ _ _ (by omega) hcz (.inl rfl)
    case rel=>exact⟨q,_,by have:=hq.out;omega,congrArg (Value.int IntKind.i64) (by have:=hq.out;omega),rfl,hI2⟩
   ·have hz':0<m:=hz.resolve_left he0;have t2:decide (-(m:Int)<0)=true:=dT (by omega);have q1:s.toList.isEmpty=false:=by rw[ByteArray.toList_eq,List.isEmpty_eq_false_iff];first|exact he0|exact fun h=>hz (.inl h)
    clear hz;go_wp2_with fail;go_round
    case measure=>exact qlz m _ _ _ (by omega) hcz (.inr hz')
    case rel=>exact⟨q,_,by have:=hq.out;omega,congrArg (Value.int IntKind.i64) (by have:=hq.out;omega),rfl,hI2⟩
  ·have hz': ¬0<m:=fun h=>hz (.inr h)
   have hse:s.data.toList≠[]:=fun h=>hz (.inl h)
   replace hse:=Lh hse;have t2:decide (-(m:Int)<0)=false:=dF (by omega);have q1:s.toList.isEmpty=false:=by rw[ByteArray.toList_eq,List.isEmpty_eq_false_iff];first|exact he0|exact fun h=>hz (.inl h)
   clear hz;go_wp2_with fail;go_ret;refine⟨congrArg (fun z=>Ending.returned (Value.string z)) ?_,rfl⟩;have h:=hI.out.fin (by omega) hse.out;rw[hs.out];apply ByteArray.ext;apply Array.ext';rw[h,←hT.out];unfold Lib.itoa;rw[if_neg (by omega),show n.natAbs=n.toNat by omega]
theorem rdec_any (n:Int) (h0: -9223372036854775808≤n) (h1:n≤9223372036854775807) (s:ByteArray) (hs:s=⟨(Lib.itoa n).toArray⟩) (w:World):
 Calls Tryz.prog 148 #[.int .i64 n] w fun e w'=>e= .returned (.string s)∧w=w':=by
 by_cases h:n<0
 ·exact qmL n h0 h s hs w
 ·exact qnI n h1 (by omega) s hs w
end Go.Proofs.YtdeimnnpcfncpaaGreatDoor.L
end
