/- Parts of the proof: E0 E1 E2 E3. -/
import Derived.Test.YtdeimnnpcfncpaaGreatDoorCT35
set_option linter.unusedVariables false
set_option linter.unusedSimpArgs false
set_option maxRecDepth 100000
set_option maxHeartbeats 64000000
namespace Go.Proofs.YtdeimnnpcfncpaaGreatDoor.X
open Go Go.RowKit
theorem qjj (X:List UInt8) (hl:X.length≤1200) (h1:qbn X=false) (h2:qaI X=true) (hF:qh7 X):qfZ X=some (qnA X):=by
 have hz:=qac X;have hd:(BS X).data.toList=X:=by simp[BS]
 obtain⟨a,e,H,S,T,hm,hl2⟩:=qdW (BS X) (by omega) (by rw[hd];exact h2);have mo:=qo0 H;have hmv:mv (BS X) a e=qly X:=by unfold mv qly;rw[hl2,hd]
 have hx:xpt (mat (BS X) a e) (qjG (tlL X))=qkE X:=by unfold qkE;rw[hm,hd]
 rw[hd] at hm;have hbd:=qbE H e (Nat.le_of_lt H.lt) (Nat.le_refl _)
 have hn:qa5 (qly X) (qkE X) (v64 (qb3 (qd3 X)).mant (qaw (qb3 (qd3 X)) (qjG (tlL X)))):=by
  rw[←hmv,←hx,←hm]
  cases ht:(mat (BS X) a e).trunc with
  |false=>exact qgY mo hbd.2.1 _ ht
  |true=>
   refine qiE mo hbd.2.1 _ ht ?_;rw[hm];rw[hm] at ht;exact hF ht
 unfold qfZ;rw[if_neg (by omega),if_neg (by rw[h1];decide),if_pos h2,qgW hn];rfl
theorem qb8 (t:List UInt8):t=t.take (qbg t)++t.drop (qbg t):=(List.take_append_drop _ _).symm
theorem qhU (m:List UInt8): ∃D,m=D++(qeY m).2∧(∀c∈D,okB c=true)∧D.count 46≤1:=by
 have hd:=qcm m;have hl:=qb8 m;unfold qeY;dsimp only
 split
 ·rename_i hr
  refine⟨m.take (qbg m),?_,fun c hc=>qcc (hd c hc),by rw[qbQ _ hd];decide⟩;rw[hr] at hl;exact hl
 ·rename_i c t hr
  split
  ·rename_i hc
   subst hc;have ht:=qcm t;refine⟨m.take (qbg m)++46::t.take (qbg t),?_,?_,?_⟩
   ·rw[hr] at hl
    conv=>lhs;rw[hl,qb8 t]
    simp
   ·intro c hc;rw[List.mem_append,List.mem_cons] at hc;rcases hc with hc|rfl|hc
    ·exact qcc (hd c hc)
    ·rfl
    ·exact qcc (ht c hc)
   ·rw[List.count_append,List.count_cons,qbQ _ hd,qbQ _ ht];decide
  ·refine⟨m.take (qbg m),?_,fun c hc=>qcc (hd c hc),by rw[qbQ _ hd];decide⟩;rw[hr] at hl;exact hl
theorem qft (l:List UInt8): ∃D,l=D++sgd l∧(∀c∈D,okB c=true)∧D.count 46=0:=by
 cases l with
 |nil=>exact⟨[],rfl,(fun c h=>by cases h),rfl⟩
 |cons c t=>
  by_cases g:c=43∨c=45
  ·refine⟨[c],by rw[sgd,if_pos g];rfl,fun x hx=>?_,?_⟩
   ·rcases g with rfl|rfl<;>(simp at hx;subst hx;rfl)
   ·rcases g with rfl|rfl<;>rfl
  ·exact⟨[],by rw[sgd,if_neg g];rfl,(fun c h=>by cases h),rfl⟩
theorem qh3 (t:List UInt8) (h:qeJ t=true):(∀c∈t,okB c=true)∧t.count 46=0:=by
 cases t with
 |nil=>exact⟨(fun c h=>by cases h),rfl⟩
 |cons c t=>
  unfold qeJ at h;simp only[Bool.and_eq_true,Bool.or_eq_true,beq_iff_eq,decide_eq_true_eq] at h;obtain⟨h1,_,h3⟩:=h;have hd:=qe8 _ h3;obtain⟨D,e,o,n⟩:=qft t;refine⟨fun x hx=>?_,?_⟩
  ·rw[List.mem_cons,e,List.mem_append] at hx;rcases hx with rfl|hx|hx
   ·rcases h1 with rfl|rfl<;>rfl
   ·exact o x hx
   ·exact qcc (hd x hx)
  ·rw[List.count_cons,e,List.count_append,n,qbQ _ hd];rcases h1 with rfl|rfl<;>rfl
theorem qdl (l:List UInt8) (h:qaI l=true):(∀c∈l,okB c=true)∧l.count 46≤1:=by
 unfold qaI at h;rw[Bool.and_eq_true] at h;obtain⟨D1,e1,o1,n1⟩:=qft l;obtain⟨D2,e2,o2,n2⟩:=qhU (sgd l);obtain⟨o3,n3⟩:=qh3 _ h.2;generalize (qeY (sgd l)).2=T at*;rw[e2] at e1;refine⟨fun x hx=>?_,?_⟩
 ·rw[e1,List.mem_append,List.mem_append] at hx;rcases hx with hx|hx|hx
  ·exact o1 x hx
  ·exact o2 x hx
  ·exact o3 x hx
 ·rw[e1,List.count_append,List.count_append,n1,n3];omega
theorem qqu (c:UInt8) (h:okB c=true):nb c=true:=by
 unfold nb;have h1:c≠32:=fun e=>by subst e;exact absurd h (by decide)
 have h2:c≠9:=fun e=>by subst e;exact absurd h (by decide)
 simp[h1,h2]
theorem qlF (a:Nat) (ha:a<18446744073709551616):(qaq a≠[]∧(∀c∈qaq a,nb c=true)∧ ∀c∈qaq a,c≠123)∧(qaq a).length≤1200:=by
 cases hn:qew a with
 |true=>
  have hk:=(qrM a ha).2 hn;have eb:qaq a=[78,97,78]:=by unfold qaq;rw[if_pos hk]
  rw[eb];exact⟨⟨by decide,by decide,by decide⟩,by decide⟩
 |false=>
  obtain⟨s,r,rfl,hr⟩:=qhP a ha hn;rcases Nat.lt_or_ge r INF with hr'|hr'
  ·obtain⟨W,T,hX,hW,hT,hW0,hl,hA,hTl,k1,k2,k3,k4,k5,k6,k7⟩:=qhD s r hr';refine⟨⟨?_,fun c hc=>qqu c ((qdl _ k1).1 c hc),fun c hc e=>?_⟩,hl⟩
   case refine_2=>
    have:=(qdl _ k1).1 c hc;subst e;exact absurd this (by decide)
   rw[hX];intro e;have:=(List.append_eq_nil_iff.1 e).2;exact hW0 (List.append_eq_nil_iff.1 this).1
  ·obtain rfl:=Nat.le_antisymm hr hr';cases s
   ·rw[qhv];exact⟨⟨by decide,by decide,by decide⟩,by decide⟩
   ·rw[qhQ];exact⟨⟨by decide,by decide,by decide⟩,by decide⟩
theorem qbc (c:UInt8) (t:List UInt8) (h:nb c=true):tb (c::t)=c::t:=by
 unfold tb Lib.trimLeftS;rw[List.dropWhile_cons_of_neg];unfold nb at h;simpa using h
theorem qaR (c:UInt8) (t:List UInt8) (h:nb c=false):tb (c::t)=tb t:=by
 unfold tb Lib.trimLeftS;rw[List.dropWhile_cons_of_pos];unfold nb at h;simpa only[Bool.not_eq_false'] using h
theorem qjN (a r:List UInt8) (h0:a≠[]) (h: ∀c∈a,nb c=true):tb (a++r)=a++r:=by
 cases a with
 |nil=>exact absurd rfl h0
 |cons c t=>exact qbc c _ (h c (List.mem_cons_self ..))
theorem qrY (l:List UInt8):tb (tb l)=tb l:=by
 induction l with
 |nil=>rfl
 |cons c t ih=>
  cases h:nb c with
  |true=>rw[qbc c t h,qbc c t h]
  |false=>rw[qaR c t h,ih]
theorem qfA (a r:List UInt8) (h: ∀c∈a,nb c=true) (hr: ∀c,r.head?=some c→nb c=false):wd (a++r)=a∧wr (a++r)=r:=by
 unfold wd wr
 induction a with
 |nil=>
  cases r with
  |nil=>exact⟨rfl,rfl⟩
  |cons c t=>rw[List.nil_append,List.takeWhile_cons_of_neg (by rw[hr c rfl];decide),List.dropWhile_cons_of_neg (by rw[hr c rfl];decide)];exact⟨rfl,rfl⟩
 |cons c t ih=>
  have hc:=h c (List.mem_cons_self ..);obtain⟨i1,i2⟩:=ih (fun x hx=>h x (List.mem_cons_of_mem _ hx));rw[List.cons_append,List.takeWhile_cons_of_pos hc,List.dropWhile_cons_of_pos hc,i1,i2];exact⟨rfl,rfl⟩
theorem qcj {o:UInt8} {n:List UInt8} (h:qai o n=true):n≠[]∧(∀c∈n,nch o c=true)∧n.length≤128:=by
 unfold qai at h;simp only[Bool.and_eq_true,decide_eq_true_eq] at h;obtain⟨⟨h1,h2⟩,h3,h4⟩:=h
 cases n with
 |nil=>simp at h1
 |cons c t=>
  refine⟨by simp,fun x hx=>?_,h2⟩;rcases List.mem_cons.1 hx with rfl|hx
  ·unfold nch;rw[show ltr o x=true from h3];rfl
  ·have:=List.all_eq_true.1 h4 x hx;exact this
theorem qpD {o c:UInt8} (ho:nb o=true) (h:nch o c=true):nb c=true:=by
 cases hb:nb c with
 |true=>rfl
 |false=>
  have:c=32∨c=9:=by
   unfold nb at hb
   by_cases h3:c=32
   ·exact .inl h3
   ·right;simp at hb;exact hb h3
  rcases this with rfl|rfl
  ·have:nch o 32=((32:UInt8)==o):=by unfold nch;rw[show isD 32=false by decide,Bool.or_false];unfold ltr;rfl
   rw[this] at h;rw[beq_iff_eq] at h;rw[←h] at ho;cases ho
  ·have:nch o 9=((9:UInt8)==o):=by unfold nch;rw[show isD 9=false by decide,Bool.or_false];unfold ltr;rfl
   rw[this] at h;rw[beq_iff_eq] at h;rw[←h] at ho;cases ho
namespace Q
open L
end Q
theorem qjE: ∀a b:List UInt8,Op.bytesLess a b=true↔a<b
 | [],[]=>by simp[Op.bytesLess]
 |_::_,[]=>by simp[Op.bytesLess]
 | [],_::_=>by simp[Op.bytesLess]
 |a::x,b::y=>by
  rw[Op.bytesLess,List.cons_lt_cons_iff,Bool.or_eq_true,Bool.and_eq_true,qjE x y,decide_eq_true_iff,beq_iff_eq]
theorem qm3 (a b:List UInt8):leB a b=false↔b<a:=by
 unfold leB;rw[Bool.or_eq_false_iff,←Bool.not_eq_true,qjE,beq_eq_false_iff_ne];constructor
 ·rintro⟨h1,h2⟩;rcases qgT a b with g|g|g
  ·exact absurd g h1
  ·exact absurd g h2
  ·exact g
 ·intro h;exact⟨fun g=>qcR _ (qhz g h),fun g=>by rw[g] at h;exact qcR _ h⟩
def qsq (x:Lb):Prop:=qc9 x=0∧emp x=false
theorem qg6: ∀(ls:List Lb) (i:Nat) (p:Option (List UInt8)),(chk i p ls).2=0↔(∀x∈ls,qsq x)∧Inc ls∧(∀n,p=some n→ ∀x,ls.head?=some x→n<x.1)
 | [],i,p=>by simp[chk,Inc]
 |x::t,i,p=>by
  rw[chk]
  by_cases h1:qc9 x=0
  ·rw[if_neg (by simpa using h1)]
   by_cases h2:qgJ p x=true
   ·rw[if_pos h2];constructor
    ·intro h;cases h
    ·rintro⟨k1,k2,k3⟩;exfalso;unfold qgJ at h2;rw[Bool.or_eq_true] at h2;rcases h2 with h2|h2
     ·have:=(k1 x (List.mem_cons_self ..)).2;unfold emp at this;rw[this] at h2;cases h2
     ·cases p with
      |none=>cases h2
      |some n=>
       have:=(qm3 x.1 n).2 (k3 n rfl x rfl);simp only at h2;rw[this] at h2;cases h2
   ·rw[if_neg h2,qg6 t (i+1) (some x.1)];have h2':qgJ p x=false:=by simpa using h2
    unfold qgJ at h2';rw[Bool.or_eq_false_iff] at h2';constructor
    ·rintro⟨k1,k2,k3⟩;refine⟨fun y hy=>?_,?_,?_⟩
     ·rcases List.mem_cons.1 hy with rfl|hy
      ·exact⟨h1,h2'.1⟩
      ·exact k1 y hy
     ·refine List.pairwise_cons.2 ⟨fun y hy=>?_,k2⟩
      cases t with
      |nil=>cases hy
      |cons z s=>
       have hz:=k3 x.1 rfl z rfl;rcases List.mem_cons.1 hy with rfl|hy
       ·exact hz
       ·exact qhz hz ((List.pairwise_cons.1 k2).1 y hy)
     ·intro n hn y hy;cases hy;subst hn;exact(qm3 x.1 n).1 h2'.2
    ·rintro⟨k1,k2,k3⟩;obtain⟨i1,i2⟩:=List.pairwise_cons.1 k2
     exact⟨fun y hy=>k1 y (List.mem_cons_of_mem _ hy),i2,fun n hn y hy=>by
      cases hn
      exact i1 y (List.mem_of_mem_head? hy)⟩
  ·rw[if_pos (by simpa using h1)];constructor
   ·intro h;exact absurd h h1
   ·rintro⟨k1,_⟩;exact absurd (k1 x (List.mem_cons_self ..)).1 h1
theorem qi2 (ls:List Lb):qby ls=true↔ls.length≤64∧(∀x∈ls,qsq x)∧Inc ls:=by
 unfold qby qb7;rw[beq_iff_eq]
 by_cases h:64<ls.length
 ·rw[if_pos h];constructor
  ·intro h;cases h
  ·rintro⟨k,_⟩;omega
 ·rw[if_neg h,qg6];constructor
  ·rintro⟨a,b,_⟩;exact⟨by omega,a,b⟩
  ·rintro⟨_,a,b⟩;exact⟨a,b,fun n hn=>by cases hn⟩
theorem qm2 {x:Lb} (h:qc9 x=0):qai 95 x.1=true∧qbK x.2=true:=by
 unfold qc9 at h
 split at h
 ·rename_i g
  split at h
  ·rename_i g2;exact⟨g,g2⟩
  ·cases h
 ·cases h
theorem qfH {s:Smp} (h:qbS s=true):qby s.ls=true∧qai 58 (qbI s.ls qal)=true∧(Go.Proofs.YtdeimnnpcfncpaaGreatDoor.kindN s.bits≠4∨s.bits=9221120237041090561)∧(s.st=true∨s.t=0):=by
 unfold qbS at h;simp only[Bool.and_eq_true,Bool.or_eq_true,Bool.not_eq_true',beq_iff_eq,beq_eq_false_iff_ne] at h;exact⟨h.1,h.2.1,h.2.2.1,h.2.2.2⟩
theorem qn9 {l v r:List UInt8} (h:quo l=some (v,r)):v.length≤l.length∧r.length≤l.length:=by
 refine⟨?_,qfv h⟩;unfold quo at h
 split at h
 ·rename_i g
  simp only[Option.some.injEq,Prod.mk.injEq] at h;rw[←h.1];have g1:=g.1;unfold quA at g1⊢
  split at g1
  ·rename_i g2
   rw[if_pos g2];exact(qnl l g1 (by intro e;rw[e] at g2;simp at g2)).2
  ·cases g1
 ·cases h
theorem qfQ (M:Nat): ∀L:List (List UInt8),(∀a∈L,a.length≤M)→(qe6 L).length≤L.length*(M+1)
 | [],_=>Nat.zero_le _
 | [a],h=>by
   have:=h a (List.mem_cons_self ..);show a.length≤_;simp;omega
 |a::b::t,h=>by
  have h1:=h a (List.mem_cons_self ..);have ih:=qfQ M (b::t) (fun x hx=>h x (List.mem_cons_of_mem _ hx));show(a++(44::qe6 (b::t))).length≤_;rw[List.length_append,List.length_cons];rw[List.length_cons,Nat.succ_mul];omega
end Go.Proofs.YtdeimnnpcfncpaaGreatDoor.X
