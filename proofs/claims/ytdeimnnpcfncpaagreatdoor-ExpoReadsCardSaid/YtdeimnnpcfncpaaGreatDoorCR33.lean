/- Parts of the proof: E0 E1 E2 E3. -/
import Derived.Test.YtdeimnnpcfncpaaGreatDoorCR32
set_option linter.unusedVariables false
set_option linter.unusedSimpArgs false
set_option maxRecDepth 100000
set_option maxHeartbeats 64000000
namespace Go.Proofs.YtdeimnnpcfncpaaGreatDoor.X
open Go Go.RowKit
theorem qmk (X:List UInt8) (hl:X.length≤1200) (h1:qbz X=false) (h2:qau X=true) (hF:qka X):qd1 X=some (qqH X):=by
 have hz:=qad X;have hd:(BS X).data.toList=X:=by simp[BS]
 obtain⟨a,e,H,S,T,hm,hl2⟩:=qfb (BS X) (by omega) (by rw[hd];exact h2);have mo:=qsg H;have hmv:mv (BS X) a e=qkd X:=by unfold mv qkd;rw[hl2,hd]
 have hx:xpt (mat (BS X) a e) (qfw (tlL X))=qj3 X:=by unfold qj3;rw[hm,hd]
 rw[hd] at hm;have hbd:=qb1 H e (Nat.le_of_lt H.lt) (Nat.le_refl _)
 have hn:qaW (qkd X) (qj3 X) (v64 (qby (qfi X)).mant (qaG (qby (qfi X)) (qfw (tlL X)))):=by
  rw[←hmv,←hx,←hm]
  cases ht:(mat (BS X) a e).trunc with
  |false=>exact qiO mo hbd.2.1 _ ht
  |true=>
   refine qkQ mo hbd.2.1 _ ht ?_;rw[hm];rw[hm] at ht;exact hF ht
 unfold qd1;rw[if_neg (by omega),if_neg (by rw[h1];decide),if_pos h2,qfT hn];rfl
theorem qcO (t:List UInt8):t=t.take (qaz t)++t.drop (qaz t):=(List.take_append_drop _ _).symm
theorem qj0 (m:List UInt8): ∃D,m=D++(qfh m).2∧(∀c∈D,okB c=true)∧D.count 46≤1:=by
 have hd:=qcC m;have hl:=qcO m;unfold qfh;dsimp only
 split
 ·rename_i hr
  refine⟨m.take (qaz m),?_,fun c hc=>qcV (hd c hc),by rw[qcq _ hd];decide⟩;rw[hr] at hl;exact hl
 ·rename_i c t hr
  split
  ·rename_i hc
   subst hc;have ht:=qcC t;refine⟨m.take (qaz m)++46::t.take (qaz t),?_,?_,?_⟩
   ·rw[hr] at hl
    conv=>lhs;rw[hl,qcO t]
    simp
   ·intro c hc;rw[List.mem_append,List.mem_cons] at hc;rcases hc with hc|rfl|hc
    ·exact qcV (hd c hc)
    ·rfl
    ·exact qcV (ht c hc)
   ·rw[List.count_append,List.count_cons,qcq _ hd,qcq _ ht];decide
  ·refine⟨m.take (qaz m),?_,fun c hc=>qcV (hd c hc),by rw[qcq _ hd];decide⟩;rw[hr] at hl;exact hl
theorem qhF (l:List UInt8): ∃D,l=D++sgd l∧(∀c∈D,okB c=true)∧D.count 46=0:=by
 cases l with
 |nil=>exact⟨[],rfl,(fun c h=>by cases h),rfl⟩
 |cons c t=>
  by_cases g:c=43∨c=45
  ·refine⟨[c],by rw[sgd,if_pos g];rfl,fun x hx=>?_,?_⟩
   ·rcases g with rfl|rfl<;>(simp at hx;subst hx;rfl)
   ·rcases g with rfl|rfl<;>rfl
  ·exact⟨[],by rw[sgd,if_neg g];rfl,(fun c h=>by cases h),rfl⟩
theorem qkh (t:List UInt8) (h:qdL t=true):(∀c∈t,okB c=true)∧t.count 46=0:=by
 cases t with
 |nil=>exact⟨(fun c h=>by cases h),rfl⟩
 |cons c t=>
  unfold qdL at h;simp only[Bool.and_eq_true,Bool.or_eq_true,beq_iff_eq,decide_eq_true_eq] at h;obtain⟨h1,_,h3⟩:=h;have hd:=qdt _ h3;obtain⟨D,e,o,n⟩:=qhF t;refine⟨fun x hx=>?_,?_⟩
  ·rw[List.mem_cons,e,List.mem_append] at hx;rcases hx with rfl|hx|hx
   ·rcases h1 with rfl|rfl<;>rfl
   ·exact o x hx
   ·exact qcV (hd x hx)
  ·rw[List.count_cons,e,List.count_append,n,qcq _ hd];rcases h1 with rfl|rfl<;>rfl
theorem qeP (l:List UInt8) (h:qau l=true):(∀c∈l,okB c=true)∧l.count 46≤1:=by
 unfold qau at h;rw[Bool.and_eq_true] at h;obtain⟨D1,e1,o1,n1⟩:=qhF l;obtain⟨D2,e2,o2,n2⟩:=qj0 (sgd l);obtain⟨o3,n3⟩:=qkh _ h.2;generalize (qfh (sgd l)).2=T at*;rw[e2] at e1;refine⟨fun x hx=>?_,?_⟩
 ·rw[e1,List.mem_append,List.mem_append] at hx;rcases hx with hx|hx|hx
  ·exact o1 x hx
  ·exact o2 x hx
  ·exact o3 x hx
 ·rw[e1,List.count_append,List.count_append,n1,n3];omega
theorem qu4 (c:UInt8) (h:okB c=true):nb c=true:=by
 unfold nb;have h1:c≠32:=fun e=>by subst e;exact absurd h (by decide)
 have h2:c≠9:=fun e=>by subst e;exact absurd h (by decide)
 simp[h1,h2]
theorem qo7 (a:Nat) (ha:a<18446744073709551616):(qaw a≠[]∧(∀c∈qaw a,nb c=true)∧ ∀c∈qaw a,c≠123)∧(qaw a).length≤1200:=by
 cases hn:qfo a with
 |true=>
  have hk:=(qtp a ha).2 hn;have eb:qaw a=[78,97,78]:=by unfold qaw;rw[if_pos hk]
  rw[eb];exact⟨⟨by decide,by decide,by decide⟩,by decide⟩
 |false=>
  obtain⟨s,r,rfl,hr⟩:=qjB a ha hn;rcases Nat.lt_or_ge r INF with hr'|hr'
  ·obtain⟨W,T,hX,hW,hT,hW0,hl,hA,hTl,k1,k2,k3,k4,k5,k6,k7⟩:=qkk s r hr';refine⟨⟨?_,fun c hc=>qu4 c ((qeP _ k1).1 c hc),fun c hc e=>?_⟩,hl⟩
   case refine_2=>
    have:=(qeP _ k1).1 c hc;subst e;exact absurd this (by decide)
   rw[hX];intro e;have:=(List.append_eq_nil_iff.1 e).2;exact hW0 (List.append_eq_nil_iff.1 this).1
  ·obtain rfl:=Nat.le_antisymm hr hr';cases s
   ·rw[qkz];exact⟨⟨by decide,by decide,by decide⟩,by decide⟩
   ·rw[qjG];exact⟨⟨by decide,by decide,by decide⟩,by decide⟩
theorem qgm (c:UInt8) (t:List UInt8) (h:nb c=true):tb (c::t)=c::t:=by
 unfold tb Lib.trimLeftS;rw[List.dropWhile_cons_of_neg];unfold nb at h;simpa using h
theorem qgy (c:UInt8) (t:List UInt8) (h:nb c=false):tb (c::t)=tb t:=by
 unfold tb Lib.trimLeftS;rw[List.dropWhile_cons_of_pos];unfold nb at h;simpa only[Bool.not_eq_false'] using h
theorem qv5 (l:List UInt8):tb (tb l)=tb l:=by
 induction l with
 |nil=>rfl
 |cons c t ih=>
  cases h:nb c with
  |true=>rw[qgm c t h,qgm c t h]
  |false=>rw[qgy c t h,ih]
theorem qc8 {o:UInt8} {n:List UInt8} (h:qam o n=true):n≠[]∧(∀c∈n,nch o c=true)∧n.length≤128:=by
 unfold qam at h;simp only[Bool.and_eq_true,decide_eq_true_eq] at h;obtain⟨⟨h1,h2⟩,h3,h4⟩:=h
 cases n with
 |nil=>simp at h1
 |cons c t=>
  refine⟨by simp,fun x hx=>?_,h2⟩;rcases List.mem_cons.1 hx with rfl|hx
  ·unfold nch;rw[show ltr o x=true from h3];rfl
  ·have:=List.all_eq_true.1 h4 x hx;exact this
namespace Q
open L
end Q
theorem qkp: ∀a b:List UInt8,Op.bytesLess a b=true↔a<b
 | [],[]=>by simp[Op.bytesLess]
 |_::_,[]=>by simp[Op.bytesLess]
 | [],_::_=>by simp[Op.bytesLess]
 |a::x,b::y=>by
  rw[Op.bytesLess,List.cons_lt_cons_iff,Bool.or_eq_true,Bool.and_eq_true,qkp x y,decide_eq_true_iff,beq_iff_eq]
theorem qqt (a b:List UInt8):leB a b=false↔b<a:=by
 unfold leB;rw[Bool.or_eq_false_iff,←Bool.not_eq_true,qkp,beq_eq_false_iff_ne];constructor
 ·rintro⟨h1,h2⟩;rcases qhg a b with g|g|g
  ·exact absurd g h1
  ·exact absurd g h2
  ·exact g
 ·intro h;exact⟨fun g=>qcK _ (qhV g h),fun g=>by rw[g] at h;exact qcK _ h⟩
def qwq (x:Lb):Prop:=qcI x=0∧emp x=false
theorem qja: ∀(ls:List Lb) (i:Nat) (p:Option (List UInt8)),(chk i p ls).2=0↔(∀x∈ls,qwq x)∧Inc ls∧(∀n,p=some n→ ∀x,ls.head?=some x→n<x.1)
 | [],i,p=>by simp[chk,Inc]
 |x::t,i,p=>by
  rw[chk]
  by_cases h1:qcI x=0
  ·rw[if_neg (by simpa using h1)]
   by_cases h2:qjp p x=true
   ·rw[if_pos h2];constructor
    ·intro h;cases h
    ·rintro⟨k1,k2,k3⟩;exfalso;unfold qjp at h2;rw[Bool.or_eq_true] at h2;rcases h2 with h2|h2
     ·have:=(k1 x (List.mem_cons_self ..)).2;unfold emp at this;rw[this] at h2;cases h2
     ·cases p with
      |none=>cases h2
      |some n=>
       have:=(qqt x.1 n).2 (k3 n rfl x rfl);simp only at h2;rw[this] at h2;cases h2
   ·rw[if_neg h2,qja t (i+1) (some x.1)];have h2':qjp p x=false:=by simpa using h2
    unfold qjp at h2';rw[Bool.or_eq_false_iff] at h2';constructor
    ·rintro⟨k1,k2,k3⟩;refine⟨fun y hy=>?_,?_,?_⟩
     ·rcases List.mem_cons.1 hy with rfl|hy
      ·exact⟨h1,h2'.1⟩
      ·exact k1 y hy
     ·refine List.pairwise_cons.2 ⟨fun y hy=>?_,k2⟩
      cases t with
      |nil=>cases hy
      |cons z s=>
       have hz:=k3 x.1 rfl z rfl;rcases List.mem_cons.1 hy with rfl|hy
       ·exact hz
       ·exact qhV hz ((List.pairwise_cons.1 k2).1 y hy)
     ·intro n hn y hy;cases hy;subst hn;exact(qqt x.1 n).1 h2'.2
    ·rintro⟨k1,k2,k3⟩;obtain⟨i1,i2⟩:=List.pairwise_cons.1 k2
     exact⟨fun y hy=>k1 y (List.mem_cons_of_mem _ hy),i2,fun n hn y hy=>by
      cases hn
      exact i1 y (List.mem_of_mem_head? hy)⟩
  ·rw[if_pos (by simpa using h1)];constructor
   ·intro h;exact absurd h h1
   ·rintro⟨k1,_⟩;exact absurd (k1 x (List.mem_cons_self ..)).1 h1
theorem qc7 (ls:List Lb):qbu ls=true↔ls.length≤64∧(∀x∈ls,qwq x)∧Inc ls:=by
 unfold qbu qcL;rw[beq_iff_eq]
 by_cases h:64<ls.length
 ·rw[if_pos h];constructor
  ·intro h;cases h
  ·rintro⟨k,_⟩;omega
 ·rw[if_neg h,qja];constructor
  ·rintro⟨a,b,_⟩;exact⟨by omega,a,b⟩
  ·rintro⟨_,a,b⟩;exact⟨a,b,fun n hn=>by cases hn⟩
theorem qp3 {x:Lb} (h:qcI x=0):qam 95 x.1=true∧qa9 x.2=true:=by
 unfold qcI at h
 split at h
 ·rename_i g
  split at h
  ·rename_i g2;exact⟨g,g2⟩
  ·cases h
 ·cases h
theorem qpD (ls:List Lb):qaB ls=0↔ ∀x∈ls,qcI x=0:=by
 induction ls with
 |nil=>simp[qaB]
 |cons x t ih=>
  unfold qaB
  by_cases h:qcI x=0
  ·rw[if_pos h,ih];constructor
   ·intro k y hy;rcases List.mem_cons.1 hy with rfl|hy
    ·exact h
    ·exact k y hy
   ·intro k y hy;exact k y (List.mem_cons_of_mem _ hy)
  ·rw[if_neg h];constructor
   ·intro k;exact absurd k h
   ·intro k;exact absurd (k x (List.mem_cons_self ..)) h
theorem qmB {all ls:List Lb} (h:ofF all=(0,ls)):qbu ls=true∧ ∀x,x∈ls↔x∈all∧emp x=false:=by
 unfold ofF at h
 split at h
 ·rename_i f0
  split at h
  ·cases h
  ·rename_i t0
   split at h
   ·cases h
   ·rename_i h64
    have e:(srt all).filter (fun x=>!emp x)=ls:=congrArg Prod.snd h;have t0':qaF all=false:=by simpa using t0
    have hm: ∀x,x∈ls↔x∈all∧emp x=false:=fun x=>by
     rw[←e,List.mem_filter,qgw];simp
    refine⟨(qc7 ls).2 ⟨by rw[←e];omega,fun x hx=>⟨(qpD all).1 f0 x ((hm x).1 hx).1,((hm x).1 hx).2⟩,?_⟩,hm⟩;rw[←e];exact(qh0 all t0').filter _
 ·rename_i f0
  exact absurd (congrArg Prod.fst h) f0
theorem qsc {ls:List Lb} (h:Inc ls) {x:Lb} (hx:x∈ls):qbs ls x.1=x.2:=by
 induction ls with
 |nil=>cases hx
 |cons y t ih=>
  obtain⟨h1,h2⟩:=List.pairwise_cons.1 h;unfold qbs;rw[List.find?_cons];rcases List.mem_cons.1 hx with rfl|hx
  ·rw[show(x.1==x.1)=true from beq_self_eq_true _]
  ·have hne:(y.1==x.1)=false:=by
    rw[beq_eq_false_iff_ne];intro e;have:=h1 x hx;rw[e] at this;exact qcK _ this
   rw[hne];exact ih h2 hx
theorem qdZ {s:Smp} (h:qbj s=true):qbu s.ls=true∧qam 58 (qbs s.ls qah)=true∧(Go.Proofs.YtdeimnnpcfncpaaGreatDoor.kindN s.bits≠4∨s.bits=9221120237041090561)∧(s.st=true∨s.t=0):=by
 unfold qbj at h;simp only[Bool.and_eq_true,Bool.or_eq_true,Bool.not_eq_true',beq_iff_eq,beq_eq_false_iff_ne] at h;exact⟨h.1,h.2.1,h.2.2.1,h.2.2.2⟩
theorem qg9 {s:Smp} (h1:qbu s.ls=true) (h2:qam 58 (qbs s.ls qah)=true) (h3:Go.Proofs.YtdeimnnpcfncpaaGreatDoor.kindN s.bits≠4∨s.bits=9221120237041090561) (h4:s.st=true∨s.t=0):qbj s=true:=by
 unfold qbj;simp only[Bool.and_eq_true,Bool.or_eq_true,Bool.not_eq_true',beq_iff_eq,beq_eq_false_iff_ne];exact⟨h1,h2,h3,h4⟩
theorem qeL {n:Nat} {p:Int} {r:Nat} (h:qaW n p r):r≤INF:=h.1
theorem qqZ {l:List UInt8} {b:Nat} (h:qd1 l=some b):b<18446744073709551616∧(Go.Proofs.YtdeimnnpcfncpaaGreatDoor.kindN b≠4∨b=9221120237041090561):=by
 have key: ∀s r,r≤INF→sgw s+r<18446744073709551616∧Go.Proofs.YtdeimnnpcfncpaaGreatDoor.kindN (sgw s+r)≠4:=fun s r hr=>by
  have hI:INF<9223372036854775808:=by decide
  have hlt:sgw s+r<18446744073709551616:=by unfold sgw;split<;>omega
  refine⟨hlt,fun hk=>?_⟩;have hn:=(qtp _ hlt).1 hk;unfold qfo at hn;have hn2:=of_decide_eq_true hn;have:(sgw s+r)%9223372036854775808=r:=by unfold sgw;split<;>omega
  omega
 unfold qd1 at h
 split at h
 ·cases h
 ·split at h
  ·rename_i g
   cases h;rcases qik l g with rfl|rfl|rfl|rfl
   ·exact⟨by decide+kernel,.inl (by decide+kernel)⟩
   ·exact⟨by decide+kernel,.inl (by decide+kernel)⟩
   ·exact⟨by decide+kernel,.inl (by decide+kernel)⟩
   ·exact⟨by decide+kernel,.inr (by decide+kernel)⟩
  ·split at h
   ·cases h;have:=key (ngL l) _ (qeL (qjP (qkd l) (qj3 l)));exact⟨this.1,.inl this.2⟩
   ·cases h
theorem qnO {l:List UInt8} {n:Int} (h:qfB l=some n): -9223372036854775808≤n∧n≤9223372036854775807:=by
 unfold qfB at h
 cases ha:qd2 l with
 |none=>rw[ha] at h;cases h
 |some m=>
  rw[ha] at h;simp only at h
  split at h
  ·cases h;unfold qd2 at ha
   split at ha
   ·rename_i v hv;cases ha;exact qfX l _ hv
   ·cases ha
  ·cases h
theorem qkw {l:List UInt8} {s:Smp} (h:qan l=(0,s)):qbj s=true∧s.bits<18446744073709551616∧ -9223372036854775808≤s.t∧s.t≤9223372036854775807:=by
 have hE: ∀n more bits st t,qam 58 n=true→(st=true∨t=0)→(bits<18446744073709551616∧(Go.Proofs.YtdeimnnpcfncpaaGreatDoor.kindN bits≠4∨bits=9221120237041090561))→(-9223372036854775808≤t∧t≤9223372036854775807)→qcu ((qah,n)::more) bits st t=(0,s)→qbj s=true∧s.bits<18446744073709551616∧ -9223372036854775808≤s.t∧s.t≤9223372036854775807:=by
  intro n more bits st t hn hst hb ht h;unfold qcu at h
  split at h
  ·rename_i g
   have e:(⟨(ofF ((qah,n)::more)).2,bits,st,t⟩:Smp)=s:=congrArg Prod.snd h;subst e;obtain⟨o1,o2⟩:=qmB (all:=(qah,n)::more) (ls:=(ofF ((qah,n)::more)).2) (by rw[←g])
   have hmem:=(o2 (qah,n)).2 ⟨List.mem_cons_self ..,by
    obtain⟨c1,_,_⟩:=qc8 hn;unfold emp
    cases n with
    |nil=>exact absurd rfl c1
    |cons _ _=>rfl⟩
   have hget:qbs (ofF ((qah,n)::more)).2 qah=n:=qsc ((qc7 _).1 o1).2.2 hmem;exact⟨qg9 o1 (by show qam 58 (qbs (ofF ((qah,n)::more)).2 qah)=true;rw[hget];exact hn) hb.2 hst,hb.1,ht.1,ht.2⟩
  ·rename_i g;exact absurd (congrArg Prod.fst h) g
 have hT: ∀n more bits d,qam 58 n=true→(bits<18446744073709551616∧(Go.Proofs.YtdeimnnpcfncpaaGreatDoor.kindN bits≠4∨bits=9221120237041090561))→qb7 ((qah,n)::more) bits d=(0,s)→qbj s=true∧s.bits<18446744073709551616∧ -9223372036854775808≤s.t∧s.t≤9223372036854775807:=by
  intro n more bits d hn hb h;unfold qb7 at h
  split at h
  ·exact hE n more bits false 0 hn (.inr rfl) hb ⟨by decide,by decide⟩ h
  ·split at h
   ·cases h
   ·rename_i m hm
    split at h
    ·exact hE n more bits true m hn (.inl rfl) hb (qnO hm) h
    ·cases h
 have hV: ∀n more c,qam 58 n=true→qb3 ((qah,n)::more) c=(0,s)→qbj s=true∧s.bits<18446744073709551616∧ -9223372036854775808≤s.t∧s.t≤9223372036854775807:=by
  intro n more c hn h;unfold qb3 at h
  cases hp:qd1 (wd c)with
  |none=>rw[hp] at h;cases h
  |some b=>rw[hp] at h;exact hT n more b _ hn (qqZ hp) h
 unfold qan at h
 split at h
 ·cases h
 ·split at h
  ·rename_i hn
   split at h
   ·split at h
    ·exact hV _ _ _ hn h
    ·rename_i g;exact absurd (congrArg Prod.fst h) g
   ·exact hV _ _ _ hn h
  ·cases h
theorem qsw {l v r:List UInt8} (h:quo l=some (v,r)):v.length≤l.length∧r.length≤l.length:=by
 refine⟨?_,qhb h⟩;unfold quo at h
 split at h
 ·rename_i g
  simp only[Option.some.injEq,Prod.mk.injEq] at h;rw[←h.1];have g1:=g.1;unfold quA at g1⊢
  split at g1
  ·rename_i g2
   rw[if_pos g2];exact(qls l g1 (by intro e;rw[e] at g2;simp at g2)).2
  ·cases g1
 ·cases h
theorem qgR (M:Nat): ∀L:List (List UInt8),(∀a∈L,a.length≤M)→(qg6 L).length≤L.length*(M+1)
 | [],_=>Nat.zero_le _
 | [a],h=>by
   have:=h a (List.mem_cons_self ..);show a.length≤_;simp;omega
 |a::b::t,h=>by
  have h1:=h a (List.mem_cons_self ..);have ih:=qgR M (b::t) (fun x hx=>h x (List.mem_cons_of_mem _ hx));show(a++(44::qg6 (b::t))).length≤_;rw[List.length_append,List.length_cons];rw[List.length_cons,Nat.succ_mul];omega
end Go.Proofs.YtdeimnnpcfncpaaGreatDoor.X
