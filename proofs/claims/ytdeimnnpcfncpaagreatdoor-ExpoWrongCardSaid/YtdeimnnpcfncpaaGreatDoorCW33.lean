/- Parts of the proof: E0 E1 E2 E3. -/
import Derived.Test.YtdeimnnpcfncpaaGreatDoorCW30
set_option linter.unusedVariables false
set_option linter.unusedSimpArgs false
set_option maxRecDepth 100000
set_option maxHeartbeats 64000000
namespace Go.Proofs.YtdeimnnpcfncpaaGreatDoor.X
open Go Go.RowKit
theorem qja (X:List UInt8) (hl:X.length≤1200) (h1:qbv X=false) (h2:qaQ X=true) (hF:qim X):qgd X=some (qph X):=by
 have hz:=qah X;have hd:(BS X).data.toList=X:=by simp[BS]
 obtain⟨a,e,H,S,T,hm,hl2⟩:=qd4 (BS X) (by omega) (by rw[hd];exact h2);have mo:=qo3 H;have hmv:mv (BS X) a e=qlQ X:=by unfold mv qlQ;rw[hl2,hd]
 have hx:xpt (mat (BS X) a e) (qjh (tlL X))=ql1 X:=by unfold ql1;rw[hm,hd]
 rw[hd] at hm;have hbd:=qbI H e (Nat.le_of_lt H.lt) (Nat.le_refl _)
 have hn:qbe (qlQ X) (ql1 X) (v64 (qb9 (qd7 X)).mant (qaE (qb9 (qd7 X)) (qjh (tlL X)))):=by
  rw[←hmv,←hx,←hm]
  cases ht:(mat (BS X) a e).trunc with
  |false=>exact qhn mo hbd.2.1 _ ht
  |true=>
   refine qkb mo hbd.2.1 _ ht ?_;rw[hm];rw[hm] at ht;exact hF ht
 unfold qgd;rw[if_neg (by omega),if_neg (by rw[h1];decide),if_pos h2,qg3 hn];rfl
theorem qcg (t:List UInt8):t=t.take (qbk t)++t.drop (qbk t):=(List.take_append_drop _ _).symm
theorem qii (m:List UInt8): ∃D,m=D++(qeU m).2∧(∀c∈D,okB c=true)∧D.count 46≤1:=by
 have hd:=qcx m;have hl:=qcg m;unfold qeU;dsimp only
 split
 ·rename_i hr
  refine⟨m.take (qbk m),?_,fun c hc=>qcj (hd c hc),by rw[qbV _ hd];decide⟩;rw[hr] at hl;exact hl
 ·rename_i c t hr
  split
  ·rename_i hc
   subst hc;have ht:=qcx t;refine⟨m.take (qbk m)++46::t.take (qbk t),?_,?_,?_⟩
   ·rw[hr] at hl
    conv=>lhs;rw[hl,qcg t]
    simp
   ·intro c hc;rw[List.mem_append,List.mem_cons] at hc;rcases hc with hc|rfl|hc
    ·exact qcj (hd c hc)
    ·rfl
    ·exact qcj (ht c hc)
   ·rw[List.count_append,List.count_cons,qbV _ hd,qbV _ ht];decide
  ·refine⟨m.take (qbk m),?_,fun c hc=>qcj (hd c hc),by rw[qbV _ hd];decide⟩;rw[hr] at hl;exact hl
theorem qfm (l:List UInt8): ∃D,l=D++sgd l∧(∀c∈D,okB c=true)∧D.count 46=0:=by
 cases l with
 |nil=>exact⟨[],rfl,(fun c h=>by cases h),rfl⟩
 |cons c t=>
  by_cases g:c=43∨c=45
  ·refine⟨[c],by rw[sgd,if_pos g];rfl,fun x hx=>?_,?_⟩
   ·rcases g with rfl|rfl<;>(simp at hx;subst hx;rfl)
   ·rcases g with rfl|rfl<;>rfl
  ·exact⟨[],by rw[sgd,if_neg g];rfl,(fun c h=>by cases h),rfl⟩
theorem qh5 (t:List UInt8) (h:qe9 t=true):(∀c∈t,okB c=true)∧t.count 46=0:=by
 cases t with
 |nil=>exact⟨(fun c h=>by cases h),rfl⟩
 |cons c t=>
  unfold qe9 at h;simp only[Bool.and_eq_true,Bool.or_eq_true,beq_iff_eq,decide_eq_true_eq] at h;obtain⟨h1,_,h3⟩:=h;have hd:=qfN _ h3;obtain⟨D,e,o,n⟩:=qfm t;refine⟨fun x hx=>?_,?_⟩
  ·rw[List.mem_cons,e,List.mem_append] at hx;rcases hx with rfl|hx|hx
   ·rcases h1 with rfl|rfl<;>rfl
   ·exact o x hx
   ·exact qcj (hd x hx)
  ·rw[List.count_cons,e,List.count_append,n,qbV _ hd];rcases h1 with rfl|rfl<;>rfl
theorem qdR (l:List UInt8) (h:qaQ l=true):(∀c∈l,okB c=true)∧l.count 46≤1:=by
 unfold qaQ at h;rw[Bool.and_eq_true] at h;obtain⟨D1,e1,o1,n1⟩:=qfm l;obtain⟨D2,e2,o2,n2⟩:=qii (sgd l);obtain⟨o3,n3⟩:=qh5 _ h.2;generalize (qeU (sgd l)).2=T at*;rw[e2] at e1;refine⟨fun x hx=>?_,?_⟩
 ·rw[e1,List.mem_append,List.mem_append] at hx;rcases hx with hx|hx|hx
  ·exact o1 x hx
  ·exact o2 x hx
  ·exact o3 x hx
 ·rw[e1,List.count_append,List.count_append,n1,n3];omega
theorem qrE (c:UInt8) (h:okB c=true):nb c=true:=by
 unfold nb;have h1:c≠32:=fun e=>by subst e;exact absurd h (by decide)
 have h2:c≠9:=fun e=>by subst e;exact absurd h (by decide)
 simp[h1,h2]
theorem qhs (a:Nat) (ha:a<18446744073709551616):(qay a≠[]∧(∀c∈qay a,nb c=true)∧ ∀c∈qay a,c≠123)∧(qay a).length≤1200:=by
 cases hn:qeK a with
 |true=>
  have hk:=(qsH a ha).2 hn;have eb:qay a=[78,97,78]:=by unfold qay;rw[if_pos hk]
  rw[eb];exact⟨⟨by decide,by decide,by decide⟩,by decide⟩
 |false=>
  obtain⟨s,r,rfl,hr⟩:=qiB a ha hn;rcases Nat.lt_or_ge r INF with hr'|hr'
  ·obtain⟨W,T,hX,hW,hT,hW0,hl,hA,hTl,k1,k2,k3,k4,k5,k6,k7⟩:=qh2 s r hr';refine⟨⟨?_,fun c hc=>qrE c ((qdR _ k1).1 c hc),fun c hc e=>?_⟩,hl⟩
   case refine_2=>
    have:=(qdR _ k1).1 c hc;subst e;exact absurd this (by decide)
   rw[hX];intro e;have:=(List.append_eq_nil_iff.1 e).2;exact hW0 (List.append_eq_nil_iff.1 this).1
  ·obtain rfl:=Nat.le_antisymm hr hr';cases s
   ·rw[qiA];exact⟨⟨by decide,by decide,by decide⟩,by decide⟩
   ·rw[qh6];exact⟨⟨by decide,by decide,by decide⟩,by decide⟩
theorem qbN {o:UInt8} {n:List UInt8} (h:qaj o n=true):n≠[]∧(∀c∈n,nch o c=true)∧n.length≤128:=by
 unfold qaj at h;simp only[Bool.and_eq_true,decide_eq_true_eq] at h;obtain⟨⟨h1,h2⟩,h3,h4⟩:=h
 cases n with
 |nil=>simp at h1
 |cons c t=>
  refine⟨by simp,fun x hx=>?_,h2⟩;rcases List.mem_cons.1 hx with rfl|hx
  ·unfold nch;rw[show ltr o x=true from h3];rfl
  ·have:=List.all_eq_true.1 h4 x hx;exact this
namespace Q
open L
end Q
theorem qkz: ∀a b:List UInt8,Op.bytesLess a b=true↔a<b
 | [],[]=>by simp[Op.bytesLess]
 |_::_,[]=>by simp[Op.bytesLess]
 | [],_::_=>by simp[Op.bytesLess]
 |a::x,b::y=>by
  rw[Op.bytesLess,List.cons_lt_cons_iff,Bool.or_eq_true,Bool.and_eq_true,qkz x y,decide_eq_true_iff,beq_iff_eq]
theorem qnR (a b:List UInt8):leB a b=false↔b<a:=by
 unfold leB;rw[Bool.or_eq_false_iff,←Bool.not_eq_true,qkz,beq_eq_false_iff_ne];constructor
 ·rintro⟨h1,h2⟩;rcases qhp a b with g|g|g
  ·exact absurd g h1
  ·exact absurd g h2
  ·exact g
 ·intro h;exact⟨fun g=>qch _ (qh8 g h),fun g=>by rw[g] at h;exact qch _ h⟩
def qta (x:Lb):Prop:=qbS x=0∧emp x=false
theorem qhq: ∀(ls:List Lb) (i:Nat) (p:Option (List UInt8)),(chk i p ls).2=0↔(∀x∈ls,qta x)∧Inc ls∧(∀n,p=some n→ ∀x,ls.head?=some x→n<x.1)
 | [],i,p=>by simp[chk,Inc]
 |x::t,i,p=>by
  rw[chk]
  by_cases h1:qbS x=0
  ·rw[if_neg (by simpa using h1)]
   by_cases h2:qhN p x=true
   ·rw[if_pos h2];constructor
    ·intro h;cases h
    ·rintro⟨k1,k2,k3⟩;exfalso;unfold qhN at h2;rw[Bool.or_eq_true] at h2;rcases h2 with h2|h2
     ·have:=(k1 x (List.mem_cons_self ..)).2;unfold emp at this;rw[this] at h2;cases h2
     ·cases p with
      |none=>cases h2
      |some n=>
       have:=(qnR x.1 n).2 (k3 n rfl x rfl);simp only at h2;rw[this] at h2;cases h2
   ·rw[if_neg h2,qhq t (i+1) (some x.1)];have h2':qhN p x=false:=by simpa using h2
    unfold qhN at h2';rw[Bool.or_eq_false_iff] at h2';constructor
    ·rintro⟨k1,k2,k3⟩;refine⟨fun y hy=>?_,?_,?_⟩
     ·rcases List.mem_cons.1 hy with rfl|hy
      ·exact⟨h1,h2'.1⟩
      ·exact k1 y hy
     ·refine List.pairwise_cons.2 ⟨fun y hy=>?_,k2⟩
      cases t with
      |nil=>cases hy
      |cons z s=>
       have hz:=k3 x.1 rfl z rfl;rcases List.mem_cons.1 hy with rfl|hy
       ·exact hz
       ·exact qh8 hz ((List.pairwise_cons.1 k2).1 y hy)
     ·intro n hn y hy;cases hy;subst hn;exact(qnR x.1 n).1 h2'.2
    ·rintro⟨k1,k2,k3⟩;obtain⟨i1,i2⟩:=List.pairwise_cons.1 k2
     exact⟨fun y hy=>k1 y (List.mem_cons_of_mem _ hy),i2,fun n hn y hy=>by
      cases hn
      exact i1 y (List.mem_of_mem_head? hy)⟩
  ·rw[if_pos (by simpa using h1)];constructor
   ·intro h;exact absurd h h1
   ·rintro⟨k1,_⟩;exact absurd (k1 x (List.mem_cons_self ..)).1 h1
theorem qaW (ls:List Lb):qav ls=true↔ls.length≤64∧(∀x∈ls,qta x)∧Inc ls:=by
 unfold qav qcd;rw[beq_iff_eq]
 by_cases h:64<ls.length
 ·rw[if_pos h];constructor
  ·intro h;cases h
  ·rintro⟨k,_⟩;omega
 ·rw[if_neg h,qhq];constructor
  ·rintro⟨a,b,_⟩;exact⟨by omega,a,b⟩
  ·rintro⟨_,a,b⟩;exact⟨a,b,fun n hn=>by cases hn⟩
theorem qhC {x:Lb} (h:qbS x=0):qaj 95 x.1=true∧qbn x.2=true:=by
 unfold qbS at h
 split at h
 ·rename_i g
  split at h
  ·rename_i g2;exact⟨g,g2⟩
  ·cases h
 ·cases h
theorem ok_one {x:Lb} (h1:qaj 95 x.1=true) (h2:qbn x.2=true):qbS x=0:=by
 unfold qbS;rw[if_pos h1,if_pos h2]
theorem qk7 (ls:List Lb):qaM ls=0↔ ∀x∈ls,qbS x=0:=by
 induction ls with
 |nil=>simp[qaM]
 |cons x t ih=>
  unfold qaM
  by_cases h:qbS x=0
  ·rw[if_pos h,ih];constructor
   ·intro k y hy;rcases List.mem_cons.1 hy with rfl|hy
    ·exact h
    ·exact k y hy
   ·intro k y hy;exact k y (List.mem_cons_of_mem _ hy)
  ·rw[if_neg h];constructor
   ·intro k;exact absurd k h
   ·intro k;exact absurd (k x (List.mem_cons_self ..)) h
theorem qjJ {all ls:List Lb} (h:ofF all=(0,ls)):qav ls=true∧ ∀x,x∈ls↔x∈all∧emp x=false:=by
 unfold ofF at h
 split at h
 ·rename_i f0
  split at h
  ·cases h
  ·rename_i t0
   split at h
   ·cases h
   ·rename_i h64
    have e:(srt all).filter (fun x=>!emp x)=ls:=congrArg Prod.snd h;have t0':qaN all=false:=by simpa using t0
    have hm: ∀x,x∈ls↔x∈all∧emp x=false:=fun x=>by
     rw[←e,List.mem_filter,qgL];simp
    refine⟨(qaW ls).2 ⟨by rw[←e];omega,fun x hx=>⟨(qk7 all).1 f0 x ((hm x).1 hx).1,((hm x).1 hx).2⟩,?_⟩,hm⟩;rw[←e];exact(qgg all t0').filter _
 ·rename_i f0
  exact absurd (congrArg Prod.fst h) f0
theorem qkk {ls:List Lb} (h:Inc ls) {x:Lb} (hx:x∈ls):qaV ls x.1=x.2:=by
 induction ls with
 |nil=>cases hx
 |cons y t ih=>
  obtain⟨h1,h2⟩:=List.pairwise_cons.1 h;unfold qaV;rw[List.find?_cons];rcases List.mem_cons.1 hx with rfl|hx
  ·rw[show(x.1==x.1)=true from beq_self_eq_true _]
  ·have hne:(y.1==x.1)=false:=by
    rw[beq_eq_false_iff_ne];intro e;have:=h1 x hx;rw[e] at this;exact qch _ this
   rw[hne];exact ih h2 hx
theorem qbT {s:Smp} (h:qaI s=true):qav s.ls=true∧qaj 58 (qaV s.ls qag)=true∧(Go.Proofs.YtdeimnnpcfncpaaGreatDoor.kindN s.bits≠4∨s.bits=9221120237041090561)∧(s.st=true∨s.t=0):=by
 unfold qaI at h;simp only[Bool.and_eq_true,Bool.or_eq_true,Bool.not_eq_true',beq_iff_eq,beq_eq_false_iff_ne] at h;exact⟨h.1,h.2.1,h.2.2.1,h.2.2.2⟩
theorem qfO {s:Smp} (h1:qav s.ls=true) (h2:qaj 58 (qaV s.ls qag)=true) (h3:Go.Proofs.YtdeimnnpcfncpaaGreatDoor.kindN s.bits≠4∨s.bits=9221120237041090561) (h4:s.st=true∨s.t=0):qaI s=true:=by
 unfold qaI;simp only[Bool.and_eq_true,Bool.or_eq_true,Bool.not_eq_true',beq_iff_eq,beq_eq_false_iff_ne];exact⟨h1,h2,h3,h4⟩
theorem qdM (M:Nat): ∀L:List (List UInt8),(∀a∈L,a.length≤M)→(qe2 L).length≤L.length*(M+1)
 | [],_=>Nat.zero_le _
 | [a],h=>by
   have:=h a (List.mem_cons_self ..);show a.length≤_;simp;omega
 |a::b::t,h=>by
  have h1:=h a (List.mem_cons_self ..);have ih:=qdM M (b::t) (fun x hx=>h x (List.mem_cons_of_mem _ hx));show(a++(44::qe2 (b::t))).length≤_;rw[List.length_append,List.length_cons];rw[List.length_cons,Nat.succ_mul];omega
theorem qkm (s:Smp) (hb:s.bits<18446744073709551616) (h0: -9223372036854775808≤s.t) (h1:s.t≤9223372036854775807) (hr:qaI s=true) (K:Nat) (hK: ∀x∈s.ls,x.2.length≤K):(qdA s).length≤1400+s.ls.length*(132+2*K):=by
 obtain⟨r1,r2,r3,r4⟩:=qbT hr;obtain⟨q1,q2,q3⟩:=(qaW _).1 r1;obtain⟨n1,n2,n3⟩:=qbN r2;obtain⟨_,e4⟩:=qhs s.bits hb;have hi:=L.itoa_len s.t h0 h1
 have hj:=qdM (131+2*K) ((s.ls.filter (fun x=>!(x.1==qag))).map lbT) (fun a ha=>by
  obtain⟨x,hx,rfl⟩:=List.mem_map.1 ha;have hx1:=(List.mem_filter.1 hx).1;have:=hK x hx1;have h2:=(qbN (qhC (q2 x hx1).1).1).2.2;have h3:=L.quL_len x.2;unfold lbT;simp only[List.length_append,List.length_cons,List.length_nil]
  omega)
 rw[List.length_map] at hj;have hfl:(s.ls.filter (fun x=>!(x.1==qag))).length≤s.ls.length:=List.length_filter_le _ _;have hm:(s.ls.filter (fun x=>!(x.1==qag))).length*(131+2*K+1)≤s.ls.length*(132+2*K):=Nat.mul_le_mul hfl (by omega);unfold qdA;dsimp only;rw[List.length_append,List.length_append,List.length_cons,List.length_append]
 have a1:(if s.ls.filter (fun x=>!(x.1==qag))=[] then ([]:List UInt8) else 123::(qe2 ((s.ls.filter (fun x=>!(x.1==qag))).map lbT)++[125])).length≤2+s.ls.length*(132+2*K):=by
  split
  ·simp
  ·rw[List.length_cons,List.length_append];simp;omega
 have a2:(if s.st=true then 32::Lib.itoa s.t else ([]:List UInt8)).length≤22:=by
  split
  ·rw[List.length_cons];omega
  ·simp
 omega
end Go.Proofs.YtdeimnnpcfncpaaGreatDoor.X
