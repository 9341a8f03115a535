/- Parts of the proof: E0 E1 E2 E3. -/
import Derived.Test.YtdeimnnpcfncpaaGreatDoorCY30
set_option linter.unusedVariables false
set_option linter.unusedSimpArgs false
set_option maxRecDepth 100000
set_option maxHeartbeats 64000000
namespace Go.Proofs.YtdeimnnpcfncpaaGreatDoor.X
open Go Go.RowKit
theorem qf4 (X:List UInt8) (hl:X.length≤1200) (h1:qbt X=false) (h2:qaE X=true) (hF:qe7 X):qeF X=some (qi6 X):=by
 have hz:=qac X;have hd:(BS X).data.toList=X:=by simp[BS]
 obtain⟨a,e,H,S,T,hm,hl2⟩:=qd4 (BS X) (by omega) (by rw[hd];exact h2);have mo:=qp8 H;have hmv:mv (BS X) a e=qmm X:=by unfold mv qmm;rw[hl2,hd]
 have hx:xpt (mat (BS X) a e) (qi5 (tlL X))=qlD X:=by unfold qlD;rw[hm,hd]
 rw[hd] at hm;have hbd:=qbR H e (Nat.le_of_lt H.lt) (Nat.le_refl _)
 have hn:qbk (qmm X) (qlD X) (v64 (qbW (qdf X)).mant (qaG (qbW (qdf X)) (qi5 (tlL X)))):=by
  rw[←hmv,←hx,←hm]
  cases ht:(mat (BS X) a e).trunc with
  |false=>exact qid mo hbd.2.1 _ ht
  |true=>
   refine qkN mo hbd.2.1 _ ht ?_;rw[hm];rw[hm] at ht;exact hF ht
 unfold qeF;rw[if_neg (by omega),if_neg (by rw[h1];decide),if_pos h2,qh9 hn];rfl
theorem qew (a:Nat) (ha:a<18446744073709551616) (hn:qdU a=false∨a=9221120237041090561):qeF (qak a)=some a:=by
 rcases hn with hn|rfl
 ·obtain⟨s,r,rfl,hr⟩:=qcV a ha hn;rcases Nat.lt_or_ge r INF with hr'|hr'
  ·obtain⟨W,T,hX,hW,hT,hW0,hl,hA,hTl,k1,k2,k3,k4,k5,k6,k7⟩:=qdb s r hr';rw[qf4 _ hl k2 k1 k4,k3]
  ·obtain rfl:=Nat.le_antisymm hr hr';cases s
   ·rw[qcY];unfold qeF;rw[if_neg (by decide),if_pos (by decide)];decide+kernel
   ·rw[qcT];unfold qeF;rw[if_neg (by decide),if_pos (by decide)];decide+kernel
 ·rw[show qak 9221120237041090561=[78,97,78] by decide+kernel];unfold qeF;rw[if_neg (by decide),if_pos (by decide)];decide+kernel
theorem qcn (t:List UInt8):t=t.take (qbo t)++t.drop (qbo t):=(List.take_append_drop _ _).symm
theorem qis (m:List UInt8): ∃D,m=D++(qel m).2∧(∀c∈D,okB c=true)∧D.count 46≤1:=by
 have hd:=qcF m;have hl:=qcn m;unfold qel;dsimp only
 split
 ·rename_i hr
  refine⟨m.take (qbo m),?_,fun c hc=>qb1 (hd c hc),by rw[qb3 _ hd];decide⟩;rw[hr] at hl;exact hl
 ·rename_i c t hr
  split
  ·rename_i hc
   subst hc;have ht:=qcF t;refine⟨m.take (qbo m)++46::t.take (qbo t),?_,?_,?_⟩
   ·rw[hr] at hl
    conv=>lhs;rw[hl,qcn t]
    simp
   ·intro c hc;rw[List.mem_append,List.mem_cons] at hc;rcases hc with hc|rfl|hc
    ·exact qb1 (hd c hc)
    ·rfl
    ·exact qb1 (ht c hc)
   ·rw[List.count_append,List.count_cons,qb3 _ hd,qb3 _ ht];decide
  ·refine⟨m.take (qbo m),?_,fun c hc=>qb1 (hd c hc),by rw[qb3 _ hd];decide⟩;rw[hr] at hl;exact hl
theorem qgl (l:List UInt8): ∃D,l=D++sgd l∧(∀c∈D,okB c=true)∧D.count 46=0:=by
 cases l with
 |nil=>exact⟨[],rfl,(fun c h=>by cases h),rfl⟩
 |cons c t=>
  by_cases g:c=43∨c=45
  ·refine⟨[c],by rw[sgd,if_pos g];rfl,fun x hx=>?_,?_⟩
   ·rcases g with rfl|rfl<;>(simp at hx;subst hx;rfl)
   ·rcases g with rfl|rfl<;>rfl
  ·exact⟨[],by rw[sgd,if_neg g];rfl,(fun c h=>by cases h),rfl⟩
theorem qiF (t:List UInt8) (h:qd0 t=true):(∀c∈t,okB c=true)∧t.count 46=0:=by
 cases t with
 |nil=>exact⟨(fun c h=>by cases h),rfl⟩
 |cons c t=>
  unfold qd0 at h;simp only[Bool.and_eq_true,Bool.or_eq_true,beq_iff_eq,decide_eq_true_eq] at h;obtain⟨h1,_,h3⟩:=h;have hd:=qdE _ h3;obtain⟨D,e,o,n⟩:=qgl t;refine⟨fun x hx=>?_,?_⟩
  ·rw[List.mem_cons,e,List.mem_append] at hx;rcases hx with rfl|hx|hx
   ·rcases h1 with rfl|rfl<;>rfl
   ·exact o x hx
   ·exact qb1 (hd x hx)
  ·rw[List.count_cons,e,List.count_append,n,qb3 _ hd];rcases h1 with rfl|rfl<;>rfl
theorem qdD (l:List UInt8) (h:qaE l=true):(∀c∈l,okB c=true)∧l.count 46≤1:=by
 unfold qaE at h;rw[Bool.and_eq_true] at h;obtain⟨D1,e1,o1,n1⟩:=qgl l;obtain⟨D2,e2,o2,n2⟩:=qis (sgd l);obtain⟨o3,n3⟩:=qiF _ h.2;generalize (qel (sgd l)).2=T at*;rw[e2] at e1;refine⟨fun x hx=>?_,?_⟩
 ·rw[e1,List.mem_append,List.mem_append] at hx;rcases hx with hx|hx|hx
  ·exact o1 x hx
  ·exact o2 x hx
  ·exact o3 x hx
 ·rw[e1,List.count_append,List.count_append,n1,n3];omega
theorem qom (c:UInt8) (h:okB c=true):nb c=true:=by
 unfold nb;have h1:c≠32:=fun e=>by subst e;exact absurd h (by decide)
 have h2:c≠9:=fun e=>by subst e;exact absurd h (by decide)
 simp[h1,h2]
theorem qcB (a:Nat) (ha:a<18446744073709551616):(qak a≠[]∧(∀c∈qak a,nb c=true)∧ ∀c∈qak a,c≠123)∧(qak a).length≤1200:=by
 cases hn:qdU a with
 |true=>
  have hk:=(qp4 a ha).2 hn;have eb:qak a=[78,97,78]:=by unfold qak;rw[if_pos hk]
  rw[eb];exact⟨⟨by decide,by decide,by decide⟩,by decide⟩
 |false=>
  obtain⟨s,r,rfl,hr⟩:=qcV a ha hn;rcases Nat.lt_or_ge r INF with hr'|hr'
  ·obtain⟨W,T,hX,hW,hT,hW0,hl,hA,hTl,k1,k2,k3,k4,k5,k6,k7⟩:=qdb s r hr';refine⟨⟨?_,fun c hc=>qom c ((qdD _ k1).1 c hc),fun c hc e=>?_⟩,hl⟩
   case refine_2=>
    have:=(qdD _ k1).1 c hc;subst e;exact absurd this (by decide)
   rw[hX];intro e;have:=(List.append_eq_nil_iff.1 e).2;exact hW0 (List.append_eq_nil_iff.1 this).1
  ·obtain rfl:=Nat.le_antisymm hr hr';cases s
   ·rw[qcY];exact⟨⟨by decide,by decide,by decide⟩,by decide⟩
   ·rw[qcT];exact⟨⟨by decide,by decide,by decide⟩,by decide⟩
theorem qbF (c:UInt8) (t:List UInt8) (h:nb c=true):tb (c::t)=c::t:=by
 unfold tb Lib.trimLeftS;rw[List.dropWhile_cons_of_neg];unfold nb at h;simpa using h
theorem qh1 (c:UInt8) (t:List UInt8) (h:nb c=false):tb (c::t)=tb t:=by
 unfold tb Lib.trimLeftS;rw[List.dropWhile_cons_of_pos];unfold nb at h;simpa only[Bool.not_eq_false'] using h
theorem qgs (a r:List UInt8) (h0:a≠[]) (h: ∀c∈a,nb c=true):tb (a++r)=a++r:=by
 cases a with
 |nil=>exact absurd rfl h0
 |cons c t=>exact qbF c _ (h c (List.mem_cons_self ..))
theorem qkg (a r:List UInt8) (h: ∀c∈a,nb c=true) (hr: ∀c,r.head?=some c→nb c=false):wd (a++r)=a∧wr (a++r)=r:=by
 unfold wd wr
 induction a with
 |nil=>
  cases r with
  |nil=>exact⟨rfl,rfl⟩
  |cons c t=>rw[List.nil_append,List.takeWhile_cons_of_neg (by rw[hr c rfl];decide),List.dropWhile_cons_of_neg (by rw[hr c rfl];decide)];exact⟨rfl,rfl⟩
 |cons c t ih=>
  have hc:=h c (List.mem_cons_self ..);obtain⟨i1,i2⟩:=ih (fun x hx=>h x (List.mem_cons_of_mem _ hx));rw[List.cons_append,List.takeWhile_cons_of_pos hc,List.dropWhile_cons_of_pos hc,i1,i2];exact⟨rfl,rfl⟩
theorem qjy (o:UInt8) (a r:List UInt8) (h: ∀c∈a,nch o c=true) (hr: ∀c,r.head?=some c→nch o c=false):nm o (a++r)=a∧nr o (a++r)=r:=by
 unfold nm nr
 induction a with
 |nil=>
  cases r with
  |nil=>exact⟨rfl,rfl⟩
  |cons c t=>rw[List.nil_append,List.takeWhile_cons_of_neg (by rw[hr c rfl];decide),List.dropWhile_cons_of_neg (by rw[hr c rfl];decide)];exact⟨rfl,rfl⟩
 |cons c t ih=>
  have hc:=h c (List.mem_cons_self ..);obtain⟨i1,i2⟩:=ih (fun x hx=>h x (List.mem_cons_of_mem _ hx));rw[List.cons_append,List.takeWhile_cons_of_pos hc,List.dropWhile_cons_of_pos hc,i1,i2];exact⟨rfl,rfl⟩
theorem qa2 {o:UInt8} {n:List UInt8} (h:qan o n=true):n≠[]∧(∀c∈n,nch o c=true)∧n.length≤128:=by
 unfold qan at h;simp only[Bool.and_eq_true,decide_eq_true_eq] at h;obtain⟨⟨h1,h2⟩,h3,h4⟩:=h
 cases n with
 |nil=>simp at h1
 |cons c t=>
  refine⟨by simp,fun x hx=>?_,h2⟩;rcases List.mem_cons.1 hx with rfl|hx
  ·unfold nch;rw[show ltr o x=true from h3];rfl
  ·have:=List.all_eq_true.1 h4 x hx;exact this
theorem qhW {o c:UInt8} (ho:nb o=true) (h:nch o c=true):nb c=true:=by
 cases hb:nb c with
 |true=>rfl
 |false=>
  have:c=32∨c=9:=by
   unfold nb at hb
   by_cases h3:c=32
   ·exact .inl h3
   ·right;simp at hb;exact hb h3
  rcases this with rfl|rfl
  ·have:nch o 32=((32:UInt8)==o):=by unfold nch;rw[show isD 32=false by decide,Bool.or_false];unfold ltr;rfl
   rw[this] at h;rw[beq_iff_eq] at h;rw[←h] at ho;cases ho
  ·have:nch o 9=((9:UInt8)==o):=by unfold nch;rw[show isD 9=false by decide,Bool.or_false];unfold ltr;rfl
   rw[this] at h;rw[beq_iff_eq] at h;rw[←h] at ho;cases ho
namespace Q
open L
theorem qmy (c:UInt8) (t:List UInt8):quL (c::t)=encq c++quL t:=by simp[quL]
theorem qeq (c:UInt8) (l:List UInt8) (hl:l≠[]) (h1:c≠10) (h2:c≠34) (h3:c≠92):rdq (c::l)=comb [c] 1 (rdq l):=by
 cases l with
 |nil=>exact absurd rfl hl
 |cons x t=>rw[rdq,if_neg h1,if_neg h2,if_neg h3]
theorem rdq_quL (t r:List UInt8):rdq (quL t++34::r)=(0,t,(quL t).length):=by
 induction t with
 |nil=>cases r<;>rfl
 |cons c t ih=>
  rw[qmy,List.append_assoc,List.length_append];unfold encq
  by_cases h1:c=92
  ·subst h1;show rdq (92::92::(quL t++34::r))=_;rw[rdq,if_neg (by decide),if_neg (by decide),if_pos rfl,if_neg (by decide),ih];simp[comb,esc]
  ·rw[if_neg h1]
   by_cases h2:c=10
   ·subst h2;show rdq (92::110::(quL t++34::r))=_;rw[rdq,if_neg (by decide),if_neg (by decide),if_pos rfl,if_neg (by decide),ih];simp[comb,esc]
   ·rw[if_neg h2]
    by_cases h3:c=34
    ·subst h3;show rdq (92::34::(quL t++34::r))=_;rw[rdq,if_neg (by decide),if_neg (by decide),if_pos rfl,if_neg (by decide),ih];simp[comb,esc]
    ·rw[if_neg h3];show rdq (c::(quL t++34::r))=_;rw[qeq c _ (by simp) h2 h3 h1,ih];simp[comb]
end Q
theorem qnh (v r:List UInt8) (h:qbi v=true):quo (34::(L.quL v++34::r))=some (v,r):=by
 have hq:quA (34::(L.quL v++34::r))=(0,v,(L.quL v).length+2):=by
  unfold quA;rw[if_pos (by simp)];unfold L.quF;rw[show(34::(L.quL v++34::r):List UInt8).drop 1=L.quL v++34::r from rfl,Q.rdq_quL];simp[L.comb]
 unfold quo;rw[hq,if_pos ⟨rfl,h⟩];show some (v,_)=_;rw[show(34::(L.quL v++34::r):List UInt8).drop ((L.quL v).length+2)=(L.quL v++34::r).drop ((L.quL v).length+1)from rfl];rw[List.drop_append,List.drop_of_length_le (by omega),Nat.add_sub_cancel_left];rfl
theorem qrn:nch 95 61=false:=by decide
def qnN (o:List Lb):Prop:= ∀x∈o,qan 95 x.1=true∧qbi x.2=true
theorem qiz {n:List UInt8} (h:qan 95 n=true): ∃c t,n=c::t∧nb c=true:=by
 obtain⟨c1,c2,c3⟩:=qa2 h
 cases n with
 |nil=>exact absurd rfl c1
 |cons c t=>exact⟨c,t,rfl,qhW (by decide) (c2 c (List.mem_cons_self ..))⟩
theorem qjB: ∀a b:List UInt8,Op.bytesLess a b=true↔a<b
 | [],[]=>by simp[Op.bytesLess]
 |_::_,[]=>by simp[Op.bytesLess]
 | [],_::_=>by simp[Op.bytesLess]
 |a::x,b::y=>by
  rw[Op.bytesLess,List.cons_lt_cons_iff,Bool.or_eq_true,Bool.and_eq_true,qjB x y,decide_eq_true_iff,beq_iff_eq]
theorem qn6 (a b:List UInt8):leB a b=false↔b<a:=by
 unfold leB;rw[Bool.or_eq_false_iff,←Bool.not_eq_true,qjB,beq_eq_false_iff_ne];constructor
 ·rintro⟨h1,h2⟩;rcases qhF a b with g|g|g
  ·exact absurd g h1
  ·exact absurd g h2
  ·exact g
 ·intro h;exact⟨fun g=>qbV _ (qiO g h),fun g=>by rw[g] at h;exact qbV _ h⟩
def qtv (x:Lb):Prop:=qb0 x=0∧emp x=false
theorem qhC: ∀(ls:List Lb) (i:Nat) (p:Option (List UInt8)),(chk i p ls).2=0↔(∀x∈ls,qtv x)∧Inc ls∧(∀n,p=some n→ ∀x,ls.head?=some x→n<x.1)
 | [],i,p=>by simp[chk,Inc]
 |x::t,i,p=>by
  rw[chk]
  by_cases h1:qb0 x=0
  ·rw[if_neg (by simpa using h1)]
   by_cases h2:qhq p x=true
   ·rw[if_pos h2];constructor
    ·intro h;cases h
    ·rintro⟨k1,k2,k3⟩;exfalso;unfold qhq at h2;rw[Bool.or_eq_true] at h2;rcases h2 with h2|h2
     ·have:=(k1 x (List.mem_cons_self ..)).2;unfold emp at this;rw[this] at h2;cases h2
     ·cases p with
      |none=>cases h2
      |some n=>
       have:=(qn6 x.1 n).2 (k3 n rfl x rfl);simp only at h2;rw[this] at h2;cases h2
   ·rw[if_neg h2,qhC t (i+1) (some x.1)];have h2':qhq p x=false:=by simpa using h2
    unfold qhq at h2';rw[Bool.or_eq_false_iff] at h2';constructor
    ·rintro⟨k1,k2,k3⟩;refine⟨fun y hy=>?_,?_,?_⟩
     ·rcases List.mem_cons.1 hy with rfl|hy
      ·exact⟨h1,h2'.1⟩
      ·exact k1 y hy
     ·refine List.pairwise_cons.2 ⟨fun y hy=>?_,k2⟩
      cases t with
      |nil=>cases hy
      |cons z s=>
       have hz:=k3 x.1 rfl z rfl;rcases List.mem_cons.1 hy with rfl|hy
       ·exact hz
       ·exact qiO hz ((List.pairwise_cons.1 k2).1 y hy)
     ·intro n hn y hy;cases hy;subst hn;exact(qn6 x.1 n).1 h2'.2
    ·rintro⟨k1,k2,k3⟩;obtain⟨i1,i2⟩:=List.pairwise_cons.1 k2
     exact⟨fun y hy=>k1 y (List.mem_cons_of_mem _ hy),i2,fun n hn y hy=>by
      cases hn
      exact i1 y (List.mem_of_mem_head? hy)⟩
  ·rw[if_pos (by simpa using h1)];constructor
   ·intro h;exact absurd h h1
   ·rintro⟨k1,_⟩;exact absurd (k1 x (List.mem_cons_self ..)).1 h1
theorem qaP (ls:List Lb):qaF ls=true↔ls.length≤64∧(∀x∈ls,qtv x)∧Inc ls:=by
 unfold qaF qcp;rw[beq_iff_eq]
 by_cases h:64<ls.length
 ·rw[if_pos h];constructor
  ·intro h;cases h
  ·rintro⟨k,_⟩;omega
 ·rw[if_neg h,qhC];constructor
  ·rintro⟨a,b,_⟩;exact⟨by omega,a,b⟩
  ·rintro⟨_,a,b⟩;exact⟨a,b,fun n hn=>by cases hn⟩
theorem qdj {x:Lb} (h:qb0 x=0):qan 95 x.1=true∧qbi x.2=true:=by
 unfold qb0 at h
 split at h
 ·rename_i g
  split at h
  ·rename_i g2;exact⟨g,g2⟩
  ·cases h
 ·cases h
theorem ok_one {x:Lb} (h1:qan 95 x.1=true) (h2:qbi x.2=true):qb0 x=0:=by
 unfold qb0;rw[if_pos h1,if_pos h2]
theorem qic (ls:List Lb):qaO ls=0↔ ∀x∈ls,qb0 x=0:=by
 induction ls with
 |nil=>simp[qaO]
 |cons x t ih=>
  unfold qaO
  by_cases h:qb0 x=0
  ·rw[if_pos h,ih];constructor
   ·intro k y hy;rcases List.mem_cons.1 hy with rfl|hy
    ·exact h
    ·exact k y hy
   ·intro k y hy;exact k y (List.mem_cons_of_mem _ hy)
  ·rw[if_neg h];constructor
   ·intro k;exact absurd k h
   ·intro k;exact absurd (k x (List.mem_cons_self ..)) h
theorem qlF {all ls:List Lb} (hr:qaF ls=true) (hp:all.Perm ls):ofF all=(0,ls):=by
 obtain⟨r1,r2,r3⟩:=(qaP ls).1 hr;have f0:qaO all=0:=(qic all).2 fun x hx=>(r2 x (hp.mem_iff.1 hx)).1
 have t0:qaC all=false:=by rw[qbq hp];exact qcz _ r3
 have hs:srt all=ls:=qjF _ _ (qfy all t0) r3 (fun x=>by rw[qeZ];exact hp.mem_iff);have hf:ls.filter (fun x=>!emp x)=ls:=List.filter_eq_self.2 fun x hx=>by rw[(r2 x hx).2];rfl
 unfold ofF;rw[if_pos f0,if_neg (by rw[t0];decide),hs,hf,if_neg (by omega)]
theorem qjj {all ls:List Lb} (h:ofF all=(0,ls)):qaF ls=true∧ ∀x,x∈ls↔x∈all∧emp x=false:=by
 unfold ofF at h
 split at h
 ·rename_i f0
  split at h
  ·cases h
  ·rename_i t0
   split at h
   ·cases h
   ·rename_i h64
    have e:(srt all).filter (fun x=>!emp x)=ls:=congrArg Prod.snd h;have t0':qaC all=false:=by simpa using t0
    have hm: ∀x,x∈ls↔x∈all∧emp x=false:=fun x=>by
     rw[←e,List.mem_filter,qeZ];simp
    refine⟨(qaP ls).2 ⟨by rw[←e];omega,fun x hx=>⟨(qic all).1 f0 x ((hm x).1 hx).1,((hm x).1 hx).2⟩,?_⟩,hm⟩;rw[←e];exact(qfy all t0').filter _
 ·rename_i f0
  exact absurd (congrArg Prod.fst h) f0
theorem qoN {ls:List Lb} (h:Inc ls) {x:Lb} (hx:x∈ls):qaI ls x.1=x.2:=by
 induction ls with
 |nil=>cases hx
 |cons y t ih=>
  obtain⟨h1,h2⟩:=List.pairwise_cons.1 h;unfold qaI;rw[List.find?_cons];rcases List.mem_cons.1 hx with rfl|hx
  ·rw[show(x.1==x.1)=true from beq_self_eq_true _]
  ·have hne:(y.1==x.1)=false:=by
    rw[beq_eq_false_iff_ne];intro e;have:=h1 x hx;rw[e] at this;exact qbV _ this
   rw[hne];exact ih h2 hx
theorem get_mem {ls:List Lb} {n:List UInt8} (h:qaI ls n≠[]):(n,qaI ls n)∈ls:=by
 unfold qaI at h⊢
 cases hf:ls.find? (fun x=>x.1==n)with
 |none=>rw[hf] at h;exact absurd rfl h
 |some x=>
  have h1:=List.mem_of_find?_eq_some hf;have h2:=List.find?_some hf;have h3:x.1=n:=by simpa using h2
  show(n,x.2)∈ls;rw[←h3];exact h1
theorem qli {ls:List Lb} (hi:Inc ls) {n v:List UInt8} (h:(n,v)∈ls):((n,v)::ls.filter (fun x=>!(x.1==n))).Perm ls:=by
 induction ls with
 |nil=>cases h
 |cons y t ih=>
  obtain⟨h1,h2⟩:=List.pairwise_cons.1 hi;rcases List.mem_cons.1 h with rfl|h
  ·have:((n,v)::t).filter (fun x=>!(x.1==n))=t:=by
    rw[List.filter_cons_of_neg (by simp)];refine List.filter_eq_self.2 fun x hx=>?_
    have:=h1 x hx;simp only[Bool.not_eq_true',beq_eq_false_iff_ne];intro e;rw[e] at this;exact qbV _ this
   rw[this]
  ·have hne:(!(y.1==n))=true:=by
    simp only[Bool.not_eq_true',beq_eq_false_iff_ne];intro e;have:=h1 _ h;rw[e] at this;exact qbV _ this
   rw[List.filter_cons_of_pos (p:=fun x:Lb=>!(x.1==n)) hne];exact(List.Perm.swap _ _ _).trans ((ih h2 h).cons y)
theorem qaZ {s:Smp} (h:qa5 s=true):qaF s.ls=true∧qan 58 (qaI s.ls qag)=true∧(Go.Proofs.YtdeimnnpcfncpaaGreatDoor.kindN s.bits≠4∨s.bits=9221120237041090561)∧(s.st=true∨s.t=0):=by
 unfold qa5 at h;simp only[Bool.and_eq_true,Bool.or_eq_true,Bool.not_eq_true',beq_iff_eq,beq_eq_false_iff_ne] at h;exact⟨h.1,h.2.1,h.2.2.1,h.2.2.2⟩
theorem qgt {s:Smp} (h1:qaF s.ls=true) (h2:qan 58 (qaI s.ls qag)=true) (h3:Go.Proofs.YtdeimnnpcfncpaaGreatDoor.kindN s.bits≠4∨s.bits=9221120237041090561) (h4:s.st=true∨s.t=0):qa5 s=true:=by
 unfold qa5;simp only[Bool.and_eq_true,Bool.or_eq_true,Bool.not_eq_true',beq_iff_eq,beq_eq_false_iff_ne];exact⟨h1,h2,h3,h4⟩
theorem qkZ (t:Int) (h0: -9223372036854775808≤t) (h1:t≤9223372036854775807):Lib.itoa t≠[]∧ ∀c∈Lib.itoa t,nb c=true:=by
 rw[qfe];have hd:=qci t.natAbs;obtain⟨c,r,e,_⟩:=L.dec_head t.natAbs;refine⟨?_,fun x hx=>?_⟩
 ·rw[e];simp
 ·rw[List.mem_append] at hx;rcases hx with hx|hx
  ·unfold sg at hx
   split at hx
   ·simp at hx;subst hx;decide
   ·cases hx
  ·exact qom x (qb1 (qaW hd x hx))
theorem qkn (t:Int) (h0: -9223372036854775808≤t) (h1:t≤9223372036854775807):qkW (Lib.itoa t)=some t:=by
 unfold qkW qf8;rw[L.atoi_itoa t h0 h1];simp
theorem qdL (M:Nat): ∀L:List (List UInt8),(∀a∈L,a.length≤M)→(qeo L).length≤L.length*(M+1)
 | [],_=>Nat.zero_le _
 | [a],h=>by
   have:=h a (List.mem_cons_self ..);show a.length≤_;simp;omega
 |a::b::t,h=>by
  have h1:=h a (List.mem_cons_self ..);have ih:=qdL M (b::t) (fun x hx=>h x (List.mem_cons_of_mem _ hx));show(a++(44::qeo (b::t))).length≤_;rw[List.length_append,List.length_cons];rw[List.length_cons,Nat.succ_mul];omega
theorem qjk (s:Smp) (hb:s.bits<18446744073709551616) (h0: -9223372036854775808≤s.t) (h1:s.t≤9223372036854775807) (hr:qa5 s=true) (K:Nat) (hK: ∀x∈s.ls,x.2.length≤K):(qbT s).length≤1400+s.ls.length*(132+2*K):=by
 obtain⟨r1,r2,r3,r4⟩:=qaZ hr;obtain⟨q1,q2,q3⟩:=(qaP _).1 r1;obtain⟨n1,n2,n3⟩:=qa2 r2;obtain⟨_,e4⟩:=qcB s.bits hb;have hi:=L.itoa_len s.t h0 h1
 have hj:=qdL (131+2*K) ((s.ls.filter (fun x=>!(x.1==qag))).map lbT) (fun a ha=>by
  obtain⟨x,hx,rfl⟩:=List.mem_map.1 ha;have hx1:=(List.mem_filter.1 hx).1;have:=hK x hx1;have h2:=(qa2 (qdj (q2 x hx1).1).1).2.2;have h3:=L.quL_len x.2;unfold lbT;simp only[List.length_append,List.length_cons,List.length_nil]
  omega)
 rw[List.length_map] at hj;have hfl:(s.ls.filter (fun x=>!(x.1==qag))).length≤s.ls.length:=List.length_filter_le _ _;have hm:(s.ls.filter (fun x=>!(x.1==qag))).length*(131+2*K+1)≤s.ls.length*(132+2*K):=Nat.mul_le_mul hfl (by omega);unfold qbT;dsimp only;rw[List.length_append,List.length_append,List.length_cons,List.length_append]
 have a1:(if s.ls.filter (fun x=>!(x.1==qag))=[] then ([]:List UInt8) else 123::(qeo ((s.ls.filter (fun x=>!(x.1==qag))).map lbT)++[125])).length≤2+s.ls.length*(132+2*K):=by
  split
  ·simp
  ·rw[List.length_cons,List.length_append];simp;omega
 have a2:(if s.st=true then 32::Lib.itoa s.t else ([]:List UInt8)).length≤22:=by
  split
  ·rw[List.length_cons];omega
  ·simp
 omega
end Go.Proofs.YtdeimnnpcfncpaaGreatDoor.X
