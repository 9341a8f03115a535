/- Parts of the proof: E0 E1 E2 E3. -/
import Derived.Test.YtdeimnnpcfncpaaGreatDoorCB32
set_option linter.unusedVariables false
set_option linter.unusedSimpArgs false
set_option maxRecDepth 100000
set_option maxHeartbeats 64000000
namespace Go.Proofs.YtdeimnnpcfncpaaGreatDoor.X
open Go Go.RowKit
theorem qgq (X:List UInt8) (hl:X.length≤1200) (h1:qbz X=false) (h2:qaB X=true) (hF:qfb X):qez X=some (qi8 X):=by
 have hz:=qad X;have hd:(BS X).data.toList=X:=by simp[BS]
 obtain⟨a,e,H,S,T,hm,hl2⟩:=qdQ (BS X) (by omega) (by rw[hd];exact h2);have mo:=qpE H;have hmv:mv (BS X) a e=qm6 X:=by unfold mv qm6;rw[hl2,hd]
 have hx:xpt (mat (BS X) a e) (qi9 (tlL X))=qms X:=by unfold qms;rw[hm,hd]
 rw[hd] at hm;have hbd:=qbQ H e (Nat.le_of_lt H.lt) (Nat.le_refl _)
 have hn:qbo (qm6 X) (qms X) (v64 (qbY (qdf X)).mant (qaC (qbY (qdf X)) (qi9 (tlL X)))):=by
  rw[←hmv,←hx,←hm]
  cases ht:(mat (BS X) a e).trunc with
  |false=>exact qh2 mo hbd.2.1 _ ht
  |true=>
   refine qkd mo hbd.2.1 _ ht ?_;rw[hm];rw[hm] at ht;exact hF ht
 unfold qez;rw[if_neg (by omega),if_neg (by rw[h1];decide),if_pos h2,qhR hn];rfl
theorem qeR (a:Nat) (ha:a<18446744073709551616) (hn:qdx a=false∨a=9221120237041090561):qez (qah a)=some a:=by
 rcases hn with hn|rfl
 ·obtain⟨s,r,rfl,hr⟩:=qcb a ha hn;rcases Nat.lt_or_ge r INF with hr'|hr'
  ·obtain⟨W,T,hX,hW,hT,hW0,hl,hA,hTl,k1,k2,k3,k4,k5,k6,k7⟩:=qck s r hr';rw[qgq _ hl k2 k1 k4,k3]
  ·obtain rfl:=Nat.le_antisymm hr hr';cases s
   ·rw[qcj];unfold qez;rw[if_neg (by decide),if_pos (by decide)];decide+kernel
   ·rw[qcn];unfold qez;rw[if_neg (by decide),if_pos (by decide)];decide+kernel
 ·rw[show qah 9221120237041090561=[78,97,78] by decide+kernel];unfold qez;rw[if_neg (by decide),if_pos (by decide)];decide+kernel
theorem qcx (t:List UInt8):t=t.take (qbr t)++t.drop (qbr t):=(List.take_append_drop _ _).symm
theorem qik (m:List UInt8): ∃D,m=D++(qek m).2∧(∀c∈D,okB c=true)∧D.count 46≤1:=by
 have hd:=qcD m;have hl:=qcx m;unfold qek;dsimp only
 split
 ·rename_i hr
  refine⟨m.take (qbr m),?_,fun c hc=>qbS (hd c hc),by rw[qb2 _ hd];decide⟩;rw[hr] at hl;exact hl
 ·rename_i c t hr
  split
  ·rename_i hc
   subst hc;have ht:=qcD t;refine⟨m.take (qbr m)++46::t.take (qbr t),?_,?_,?_⟩
   ·rw[hr] at hl
    conv=>lhs;rw[hl,qcx t]
    simp
   ·intro c hc;rw[List.mem_append,List.mem_cons] at hc;rcases hc with hc|rfl|hc
    ·exact qbS (hd c hc)
    ·rfl
    ·exact qbS (ht c hc)
   ·rw[List.count_append,List.count_cons,qb2 _ hd,qb2 _ ht];decide
  ·refine⟨m.take (qbr m),?_,fun c hc=>qbS (hd c hc),by rw[qb2 _ hd];decide⟩;rw[hr] at hl;exact hl
theorem qgf (l:List UInt8): ∃D,l=D++sgd l∧(∀c∈D,okB c=true)∧D.count 46=0:=by
 cases l with
 |nil=>exact⟨[],rfl,(fun c h=>by cases h),rfl⟩
 |cons c t=>
  by_cases g:c=43∨c=45
  ·refine⟨[c],by rw[sgd,if_pos g];rfl,fun x hx=>?_,?_⟩
   ·rcases g with rfl|rfl<;>(simp at hx;subst hx;rfl)
   ·rcases g with rfl|rfl<;>rfl
  ·exact⟨[],by rw[sgd,if_neg g];rfl,(fun c h=>by cases h),rfl⟩
theorem qix (t:List UInt8) (h:qea t=true):(∀c∈t,okB c=true)∧t.count 46=0:=by
 cases t with
 |nil=>exact⟨(fun c h=>by cases h),rfl⟩
 |cons c t=>
  unfold qea at h;simp only[Bool.and_eq_true,Bool.or_eq_true,beq_iff_eq,decide_eq_true_eq] at h;obtain⟨h1,_,h3⟩:=h;have hd:=qdH _ h3;obtain⟨D,e,o,n⟩:=qgf t;refine⟨fun x hx=>?_,?_⟩
  ·rw[List.mem_cons,e,List.mem_append] at hx;rcases hx with rfl|hx|hx
   ·rcases h1 with rfl|rfl<;>rfl
   ·exact o x hx
   ·exact qbS (hd x hx)
  ·rw[List.count_cons,e,List.count_append,n,qb2 _ hd];rcases h1 with rfl|rfl<;>rfl
theorem qcy (l:List UInt8) (h:qaB l=true):(∀c∈l,okB c=true)∧l.count 46≤1:=by
 unfold qaB at h;rw[Bool.and_eq_true] at h;obtain⟨D1,e1,o1,n1⟩:=qgf l;obtain⟨D2,e2,o2,n2⟩:=qik (sgd l);obtain⟨o3,n3⟩:=qix _ h.2;generalize (qek (sgd l)).2=T at*;rw[e2] at e1;refine⟨fun x hx=>?_,?_⟩
 ·rw[e1,List.mem_append,List.mem_append] at hx;rcases hx with hx|hx|hx
  ·exact o1 x hx
  ·exact o2 x hx
  ·exact o3 x hx
 ·rw[e1,List.count_append,List.count_append,n1,n3];omega
theorem qnV (c:UInt8) (h:okB c=true):nb c=true:=by
 unfold nb;have h1:c≠32:=fun e=>by subst e;exact absurd h (by decide)
 have h2:c≠9:=fun e=>by subst e;exact absurd h (by decide)
 simp[h1,h2]
theorem qcF (a:Nat) (ha:a<18446744073709551616):(qah a≠[]∧(∀c∈qah a,nb c=true)∧ ∀c∈qah a,c≠123)∧(qah a).length≤1200:=by
 cases hn:qdx a with
 |true=>
  have hk:=(qnt a ha).2 hn;have eb:qah a=[78,97,78]:=by unfold qah;rw[if_pos hk]
  rw[eb];exact⟨⟨by decide,by decide,by decide⟩,by decide⟩
 |false=>
  obtain⟨s,r,rfl,hr⟩:=qcb a ha hn;rcases Nat.lt_or_ge r INF with hr'|hr'
  ·obtain⟨W,T,hX,hW,hT,hW0,hl,hA,hTl,k1,k2,k3,k4,k5,k6,k7⟩:=qck s r hr';refine⟨⟨?_,fun c hc=>qnV c ((qcy _ k1).1 c hc),fun c hc e=>?_⟩,hl⟩
   case refine_2=>
    have:=(qcy _ k1).1 c hc;subst e;exact absurd this (by decide)
   rw[hX];intro e;have:=(List.append_eq_nil_iff.1 e).2;exact hW0 (List.append_eq_nil_iff.1 this).1
  ·obtain rfl:=Nat.le_antisymm hr hr';cases s
   ·rw[qcj];exact⟨⟨by decide,by decide,by decide⟩,by decide⟩
   ·rw[qcn];exact⟨⟨by decide,by decide,by decide⟩,by decide⟩
theorem qb5 (c:UInt8) (t:List UInt8) (h:nb c=true):tb (c::t)=c::t:=by
 unfold tb Lib.trimLeftS;rw[List.dropWhile_cons_of_neg];unfold nb at h;simpa using h
theorem qfo (c:UInt8) (t:List UInt8) (h:nb c=false):tb (c::t)=tb t:=by
 unfold tb Lib.trimLeftS;rw[List.dropWhile_cons_of_pos];unfold nb at h;simpa only[Bool.not_eq_false'] using h
theorem qcu (a r:List UInt8) (h0:a≠[]) (h: ∀c∈a,nb c=true):tb (a++r)=a++r:=by
 cases a with
 |nil=>exact absurd rfl h0
 |cons c t=>exact qb5 c _ (h c (List.mem_cons_self ..))
theorem qkX (a r:List UInt8) (h: ∀c∈a,nb c=true) (hr: ∀c,r.head?=some c→nb c=false):wd (a++r)=a∧wr (a++r)=r:=by
 unfold wd wr
 induction a with
 |nil=>
  cases r with
  |nil=>exact⟨rfl,rfl⟩
  |cons c t=>rw[List.nil_append,List.takeWhile_cons_of_neg (by rw[hr c rfl];decide),List.dropWhile_cons_of_neg (by rw[hr c rfl];decide)];exact⟨rfl,rfl⟩
 |cons c t ih=>
  have hc:=h c (List.mem_cons_self ..);obtain⟨i1,i2⟩:=ih (fun x hx=>h x (List.mem_cons_of_mem _ hx));rw[List.cons_append,List.takeWhile_cons_of_pos hc,List.dropWhile_cons_of_pos hc,i1,i2];exact⟨rfl,rfl⟩
theorem qgA (o:UInt8) (a r:List UInt8) (h: ∀c∈a,nch o c=true) (hr: ∀c,r.head?=some c→nch o c=false):nm o (a++r)=a∧nr o (a++r)=r:=by
 unfold nm nr
 induction a with
 |nil=>
  cases r with
  |nil=>exact⟨rfl,rfl⟩
  |cons c t=>rw[List.nil_append,List.takeWhile_cons_of_neg (by rw[hr c rfl];decide),List.dropWhile_cons_of_neg (by rw[hr c rfl];decide)];exact⟨rfl,rfl⟩
 |cons c t ih=>
  have hc:=h c (List.mem_cons_self ..);obtain⟨i1,i2⟩:=ih (fun x hx=>h x (List.mem_cons_of_mem _ hx));rw[List.cons_append,List.takeWhile_cons_of_pos hc,List.dropWhile_cons_of_pos hc,i1,i2];exact⟨rfl,rfl⟩
theorem qaR {o:UInt8} {n:List UInt8} (h:qan o n=true):n≠[]∧(∀c∈n,nch o c=true)∧n.length≤128:=by
 unfold qan at h;simp only[Bool.and_eq_true,decide_eq_true_eq] at h;obtain⟨⟨h1,h2⟩,h3,h4⟩:=h
 cases n with
 |nil=>simp at h1
 |cons c t=>
  refine⟨by simp,fun x hx=>?_,h2⟩;rcases List.mem_cons.1 hx with rfl|hx
  ·unfold nch;rw[show ltr o x=true from h3];rfl
  ·have:=List.all_eq_true.1 h4 x hx;exact this
theorem qhW {o c:UInt8} (ho:nb o=true) (h:nch o c=true):nb c=true:=by
 cases hb:nb c with
 |true=>rfl
 |false=>
  have:c=32∨c=9:=by
   unfold nb at hb
   by_cases h3:c=32
   ·exact .inl h3
   ·right;simp at hb;exact hb h3
  rcases this with rfl|rfl
  ·have:nch o 32=((32:UInt8)==o):=by unfold nch;rw[show isD 32=false by decide,Bool.or_false];unfold ltr;rfl
   rw[this] at h;rw[beq_iff_eq] at h;rw[←h] at ho;cases ho
  ·have:nch o 9=((9:UInt8)==o):=by unfold nch;rw[show isD 9=false by decide,Bool.or_false];unfold ltr;rfl
   rw[this] at h;rw[beq_iff_eq] at h;rw[←h] at ho;cases ho
namespace Q
open L
theorem qnB (c:UInt8) (t:List UInt8):quL (c::t)=encq c++quL t:=by simp[quL]
theorem qen (c:UInt8) (l:List UInt8) (hl:l≠[]) (h1:c≠10) (h2:c≠34) (h3:c≠92):rdq (c::l)=comb [c] 1 (rdq l):=by
 cases l with
 |nil=>exact absurd rfl hl
 |cons x t=>rw[rdq,if_neg h1,if_neg h2,if_neg h3]
theorem rdq_quL (t r:List UInt8):rdq (quL t++34::r)=(0,t,(quL t).length):=by
 induction t with
 |nil=>cases r<;>rfl
 |cons c t ih=>
  rw[qnB,List.append_assoc,List.length_append];unfold encq
  by_cases h1:c=92
  ·subst h1;show rdq (92::92::(quL t++34::r))=_;rw[rdq,if_neg (by decide),if_neg (by decide),if_pos rfl,if_neg (by decide),ih];simp[comb,esc]
  ·rw[if_neg h1]
   by_cases h2:c=10
   ·subst h2;show rdq (92::110::(quL t++34::r))=_;rw[rdq,if_neg (by decide),if_neg (by decide),if_pos rfl,if_neg (by decide),ih];simp[comb,esc]
   ·rw[if_neg h2]
    by_cases h3:c=34
    ·subst h3;show rdq (92::34::(quL t++34::r))=_;rw[rdq,if_neg (by decide),if_neg (by decide),if_pos rfl,if_neg (by decide),ih];simp[comb,esc]
    ·rw[if_neg h3];show rdq (c::(quL t++34::r))=_;rw[qen c _ (by simp) h2 h3 h1,ih];simp[comb]
end Q
theorem qmv (v r:List UInt8) (h:qbm v=true):quo (34::(L.quL v++34::r))=some (v,r):=by
 have hq:quA (34::(L.quL v++34::r))=(0,v,(L.quL v).length+2):=by
  unfold quA;rw[if_pos (by simp)];unfold L.quF;rw[show(34::(L.quL v++34::r):List UInt8).drop 1=L.quL v++34::r from rfl,Q.rdq_quL];simp[L.comb]
 unfold quo;rw[hq,if_pos ⟨rfl,h⟩];show some (v,_)=_;rw[show(34::(L.quL v++34::r):List UInt8).drop ((L.quL v).length+2)=(L.quL v++34::r).drop ((L.quL v).length+1)from rfl];rw[List.drop_append,List.drop_of_length_le (by omega),Nat.add_sub_cancel_left];rfl
theorem qhn (x:Lb) (r:List UInt8):lbT x++r=x.1++(61::(34::(L.quL x.2++34::r))):=by
 unfold lbT;simp
theorem qsq:nch 95 61=false:=by decide
theorem qeg (a b:List UInt8) (t:List (List UInt8)) (r:List UInt8):qbj (a::b::t)++r=a++(44::(qbj (b::t)++r)):=by
 show(a++(44::qbj (b::t)))++r=_;simp
def qkk (o:List Lb):Prop:= ∀x∈o,qan 95 x.1=true∧qbm x.2=true
theorem qig (f:Nat) (x:Lb) (r:List UInt8) (out:List Lb) (h1:qan 95 x.1=true) (h2:qbm x.2=true) (hs:(x.1==qag)=false) (ho:qcr out x.1=false) (hr: ∃c t,r=c::t∧nb c=true):
 qfM (f+1) (lbT x++r) out=if (r.head?==some 44)=true then qfM f (tb r.tail) (out++[x]) else if (r.head?==some 125)=true then qfM f r (out++[x]) else (231,[],[]):=by
 obtain⟨c1,c2,c3⟩:=qaR h1;obtain⟨a1,a2⟩:=qgA 95 x.1 (61::(34::(L.quL x.2++34::r))) c2 (fun c hc=>by cases hc;exact qsq);obtain⟨c,t,rfl,hc⟩:=hr;rw[qhn];rw[qfM]
 have hh:((x.1++(61::(34::(L.quL x.2++34::(c::t))))).head?==some 125)=false:=by
  cases hx:x.1 with
  |nil=>exact absurd hx c1
  |cons y s=>
   have:=c2 y (by rw[hx];exact List.mem_cons_self ..);simp only[List.cons_append,List.head?_cons];rw[beq_eq_false_iff_ne];intro e;cases e;exact absurd this (by decide)
 rw[if_neg (by rw[hh];decide),a1,a2,h1];rw[qb5 61 _ (by decide)];rw[if_pos (by rfl)];rw[show(61::34::(L.quL x.2++34::c::t):List UInt8).tail=34::(L.quL x.2++34::c::t)from rfl,qb5 34 _ (by decide),qmv x.2 (c::t) h2];simp only[hs,ho,Bool.or_self,Bool.false_eq_true,if_false];rw[qb5 c t hc]
theorem qis {n:List UInt8} (h:qan 95 n=true): ∃c t,n=c::t∧nb c=true:=by
 obtain⟨c1,c2,c3⟩:=qaR h
 cases n with
 |nil=>exact absurd rfl c1
 |cons c t=>exact⟨c,t,rfl,qhW (by decide) (c2 c (List.mem_cons_self ..))⟩
theorem qgn (x:Lb) (o:List Lb) (r:List UInt8) (h:qan 95 x.1=true): ∃c t,qbj ((x::o).map lbT)++r=c::t∧nb c=true:=by
 obtain⟨c,t,e,hc⟩:=qis h
 cases o with
 |nil=>
  refine⟨c,t++(61::(34::(L.quL x.2++34::r))),?_,hc⟩;show lbT x++r=_;rw[qhn,e];rfl
 |cons y s=>
  refine⟨c,t++(61::(34::(L.quL x.2++34::(44::(qbj ((y::s).map lbT)++r))))),?_,hc⟩;show qbj (lbT x::lbT y::s.map lbT)++r=_;rw[qeg,qhn,e];rfl
theorem qgp: ∀(o:List Lb) (f:Nat) (r:List UInt8) (out:List Lb),o≠[]→o.length<f→qkk o→(∀x∈o,(x.1==qag)=false)→qaJ (out++o)=false→
 qfM f (qbj (o.map lbT)++125::r) out=(0,out++o,r)
 | [],_,_,_,h,_,_,_,_=>absurd rfl h
 | [x],f,r,out,_,hf,hk,hn,ht=>by
   obtain⟨g,rfl⟩: ∃g,f=g+2:=⟨f - 2,by simp at hf;omega⟩;obtain⟨k1,k2⟩:=hk x (List.mem_cons_self ..)
   have ho:qcr out x.1=false:=by
    rw[←Bool.not_eq_true,qcf];rintro⟨y,hy,e⟩;have h3:=(qaQ _).1 ht;rw[List.map_append,List.nodup_append] at h3;exact h3.2.2 y.1 (List.mem_map_of_mem hy) x.1 (by simp) e
   show qfM (g+1+1) (lbT x++125::r) out=_;rw[qig (g+1) x (125::r) out k1 k2 (hn x (List.mem_cons_self ..)) ho ⟨125,r,rfl,by decide⟩];rw[if_neg (by simp),if_pos (by simp),qfM,if_pos (by simp)];rfl
 |x::y::t,f,r,out,_,hf,hk,hn,ht=>by
  obtain⟨g,rfl⟩: ∃g,f=g+1:=⟨f - 1,by simp at hf;omega⟩;obtain⟨k1,k2⟩:=hk x (List.mem_cons_self ..)
  have ho:qcr out x.1=false:=by
   rw[←Bool.not_eq_true,qcf];rintro⟨z,hz,e⟩;have h3:=(qaQ _).1 ht;rw[List.map_append,List.nodup_append] at h3;exact h3.2.2 z.1 (List.mem_map_of_mem hz) x.1 (by simp) e
  have hk2:qkk (y::t):=fun z hz=>hk z (List.mem_cons_of_mem _ hz)
  show qfM (g+1) (qbj (lbT x::lbT y::t.map lbT)++125::r) out=_;rw[qeg];rw[qig g x _ out k1 k2 (hn x (List.mem_cons_self ..)) ho ⟨44,_,rfl,by decide⟩];rw[if_pos (by simp),List.tail_cons];obtain⟨c,u,e,hc⟩:=qgn y t (125::r) (hk2 y (List.mem_cons_self ..)).1;have he:qbj (lbT y::t.map lbT)++125::r=c::u:=e;rw[he,qb5 c u hc,←he];have:=qgp (y::t) g r (out++[x]) (by simp) (by simp at hf⊢;omega) hk2 (fun z hz=>hn z (List.mem_cons_of_mem _ hz)) (by rw[List.append_assoc];exact ht);rw[List.append_assoc] at this;exact this
theorem qgH (o:List Lb) (r:List UInt8) (h0:o≠[]) (hk:qkk o) (hn: ∀x∈o,(x.1==qag)=false) (ht:qaJ o=false):qb7 (qbj (o.map lbT)++125::r)=(0,o,r):=by
 unfold qb7
 cases o with
 |nil=>exact absurd rfl h0
 |cons x t=>
  obtain⟨c,u,e,hc⟩:=qgn x t (125::r) (hk x (List.mem_cons_self ..)).1;rw[e,qb5 c u hc,←e];refine(qgp (x::t) _ r [] (by simp) ?_ hk hn (by simpa using ht)).trans (by simp)
  have hl: ∀(s:List Lb),s.length≤(qbj (s.map lbT)).length+1:=by
   intro s
   induction s with
   |nil=>simp
   |cons a s ih=>
    cases s with
    |nil=>simp
    |cons b s=>
     have:=congrArg List.length (qeg (lbT a) (lbT b) (s.map lbT) []);simp only[List.append_nil,List.length_append,List.length_cons] at this;simp only[List.map_cons,List.length_cons] at ih⊢;omega
  have:=hl (x::t);simp only[List.length_append,List.length_cons] at this⊢;omega
theorem qjS: ∀a b:List UInt8,Op.bytesLess a b=true↔a<b
 | [],[]=>by simp[Op.bytesLess]
 |_::_,[]=>by simp[Op.bytesLess]
 | [],_::_=>by simp[Op.bytesLess]
 |a::x,b::y=>by
  rw[Op.bytesLess,List.cons_lt_cons_iff,Bool.or_eq_true,Bool.and_eq_true,qjS x y,decide_eq_true_iff,beq_iff_eq]
theorem qoe (a b:List UInt8):leB a b=false↔b<a:=by
 unfold leB;rw[Bool.or_eq_false_iff,←Bool.not_eq_true,qjS,beq_eq_false_iff_ne];constructor
 ·rintro⟨h1,h2⟩;rcases qhv a b with g|g|g
  ·exact absurd g h1
  ·exact absurd g h2
  ·exact g
 ·intro h;exact⟨fun g=>qbX _ (qio g h),fun g=>by rw[g] at h;exact qbX _ h⟩
def qtr (x:Lb):Prop:=qb0 x=0∧emp x=false
theorem qhT: ∀(ls:List Lb) (i:Nat) (p:Option (List UInt8)),(chk i p ls).2=0↔(∀x∈ls,qtr x)∧Inc ls∧(∀n,p=some n→ ∀x,ls.head?=some x→n<x.1)
 | [],i,p=>by simp[chk,Inc]
 |x::t,i,p=>by
  rw[chk]
  by_cases h1:qb0 x=0
  ·rw[if_neg (by simpa using h1)]
   by_cases h2:qh9 p x=true
   ·rw[if_pos h2];constructor
    ·intro h;cases h
    ·rintro⟨k1,k2,k3⟩;exfalso;unfold qh9 at h2;rw[Bool.or_eq_true] at h2;rcases h2 with h2|h2
     ·have:=(k1 x (List.mem_cons_self ..)).2;unfold emp at this;rw[this] at h2;cases h2
     ·cases p with
      |none=>cases h2
      |some n=>
       have:=(qoe x.1 n).2 (k3 n rfl x rfl);simp only at h2;rw[this] at h2;cases h2
   ·rw[if_neg h2,qhT t (i+1) (some x.1)];have h2':qh9 p x=false:=by simpa using h2
    unfold qh9 at h2';rw[Bool.or_eq_false_iff] at h2';constructor
    ·rintro⟨k1,k2,k3⟩;refine⟨fun y hy=>?_,?_,?_⟩
     ·rcases List.mem_cons.1 hy with rfl|hy
      ·exact⟨h1,h2'.1⟩
      ·exact k1 y hy
     ·refine List.pairwise_cons.2 ⟨fun y hy=>?_,k2⟩
      cases t with
      |nil=>cases hy
      |cons z s=>
       have hz:=k3 x.1 rfl z rfl;rcases List.mem_cons.1 hy with rfl|hy
       ·exact hz
       ·exact qio hz ((List.pairwise_cons.1 k2).1 y hy)
     ·intro n hn y hy;cases hy;subst hn;exact(qoe x.1 n).1 h2'.2
    ·rintro⟨k1,k2,k3⟩;obtain⟨i1,i2⟩:=List.pairwise_cons.1 k2
     exact⟨fun y hy=>k1 y (List.mem_cons_of_mem _ hy),i2,fun n hn y hy=>by
      cases hn
      exact i1 y (List.mem_of_mem_head? hy)⟩
  ·rw[if_pos (by simpa using h1)];constructor
   ·intro h;exact absurd h h1
   ·rintro⟨k1,_⟩;exact absurd (k1 x (List.mem_cons_self ..)).1 h1
theorem qaO (ls:List Lb):qaL ls=true↔ls.length≤64∧(∀x∈ls,qtr x)∧Inc ls:=by
 unfold qaL qcw;rw[beq_iff_eq]
 by_cases h:64<ls.length
 ·rw[if_pos h];constructor
  ·intro h;cases h
  ·rintro⟨k,_⟩;omega
 ·rw[if_neg h,qhT];constructor
  ·rintro⟨a,b,_⟩;exact⟨by omega,a,b⟩
  ·rintro⟨_,a,b⟩;exact⟨a,b,fun n hn=>by cases hn⟩
theorem qdG {x:Lb} (h:qb0 x=0):qan 95 x.1=true∧qbm x.2=true:=by
 unfold qb0 at h
 split at h
 ·rename_i g
  split at h
  ·rename_i g2;exact⟨g,g2⟩
  ·cases h
 ·cases h
theorem ok_one {x:Lb} (h1:qan 95 x.1=true) (h2:qbm x.2=true):qb0 x=0:=by
 unfold qb0;rw[if_pos h1,if_pos h2]
theorem qh0 (ls:List Lb):qaM ls=0↔ ∀x∈ls,qb0 x=0:=by
 induction ls with
 |nil=>simp[qaM]
 |cons x t ih=>
  unfold qaM
  by_cases h:qb0 x=0
  ·rw[if_pos h,ih];constructor
   ·intro k y hy;rcases List.mem_cons.1 hy with rfl|hy
    ·exact h
    ·exact k y hy
   ·intro k y hy;exact k y (List.mem_cons_of_mem _ hy)
  ·rw[if_neg h];constructor
   ·intro k;exact absurd k h
   ·intro k;exact absurd (k x (List.mem_cons_self ..)) h
theorem qmj {all ls:List Lb} (hr:qaL ls=true) (hp:all.Perm ls):ofF all=(0,ls):=by
 obtain⟨r1,r2,r3⟩:=(qaO ls).1 hr;have f0:qaM all=0:=(qh0 all).2 fun x hx=>(r2 x (hp.mem_iff.1 hx)).1
 have t0:qaJ all=false:=by rw[qcg hp];exact qcG _ r3
 have hs:srt all=ls:=qkv _ _ (qe0 all t0) r3 (fun x=>by rw[qfe];exact hp.mem_iff);have hf:ls.filter (fun x=>!emp x)=ls:=List.filter_eq_self.2 fun x hx=>by rw[(r2 x hx).2];rfl
 unfold ofF;rw[if_pos f0,if_neg (by rw[t0];decide),hs,hf,if_neg (by omega)]
theorem qjp {all ls:List Lb} (h:ofF all=(0,ls)):qaL ls=true∧ ∀x,x∈ls↔x∈all∧emp x=false:=by
 unfold ofF at h
 split at h
 ·rename_i f0
  split at h
  ·cases h
  ·rename_i t0
   split at h
   ·cases h
   ·rename_i h64
    have e:(srt all).filter (fun x=>!emp x)=ls:=congrArg Prod.snd h;have t0':qaJ all=false:=by simpa using t0
    have hm: ∀x,x∈ls↔x∈all∧emp x=false:=fun x=>by
     rw[←e,List.mem_filter,qfe];simp
    refine⟨(qaO ls).2 ⟨by rw[←e];omega,fun x hx=>⟨(qh0 all).1 f0 x ((hm x).1 hx).1,((hm x).1 hx).2⟩,?_⟩,hm⟩;rw[←e];exact(qe0 all t0').filter _
 ·rename_i f0
  exact absurd (congrArg Prod.fst h) f0
theorem qpb {ls:List Lb} (h:Inc ls) {x:Lb} (hx:x∈ls):qaE ls x.1=x.2:=by
 induction ls with
 |nil=>cases hx
 |cons y t ih=>
  obtain⟨h1,h2⟩:=List.pairwise_cons.1 h;unfold qaE;rw[List.find?_cons];rcases List.mem_cons.1 hx with rfl|hx
  ·rw[show(x.1==x.1)=true from beq_self_eq_true _]
  ·have hne:(y.1==x.1)=false:=by
    rw[beq_eq_false_iff_ne];intro e;have:=h1 x hx;rw[e] at this;exact qbX _ this
   rw[hne];exact ih h2 hx
theorem get_mem {ls:List Lb} {n:List UInt8} (h:qaE ls n≠[]):(n,qaE ls n)∈ls:=by
 unfold qaE at h⊢
 cases hf:ls.find? (fun x=>x.1==n)with
 |none=>rw[hf] at h;exact absurd rfl h
 |some x=>
  have h1:=List.mem_of_find?_eq_some hf;have h2:=List.find?_some hf;have h3:x.1=n:=by simpa using h2
  show(n,x.2)∈ls;rw[←h3];exact h1
theorem qjV {ls:List Lb} (hi:Inc ls) {n v:List UInt8} (h:(n,v)∈ls):((n,v)::ls.filter (fun x=>!(x.1==n))).Perm ls:=by
 induction ls with
 |nil=>cases h
 |cons y t ih=>
  obtain⟨h1,h2⟩:=List.pairwise_cons.1 hi;rcases List.mem_cons.1 h with rfl|h
  ·have:((n,v)::t).filter (fun x=>!(x.1==n))=t:=by
    rw[List.filter_cons_of_neg (by simp)];refine List.filter_eq_self.2 fun x hx=>?_
    have:=h1 x hx;simp only[Bool.not_eq_true',beq_eq_false_iff_ne];intro e;rw[e] at this;exact qbX _ this
   rw[this]
  ·have hne:(!(y.1==n))=true:=by
    simp only[Bool.not_eq_true',beq_eq_false_iff_ne];intro e;have:=h1 _ h;rw[e] at this;exact qbX _ this
   rw[List.filter_cons_of_pos (p:=fun x:Lb=>!(x.1==n)) hne];exact(List.Perm.swap _ _ _).trans ((ih h2 h).cons y)
theorem qaF {s:Smp} (h:qaW s=true):qaL s.ls=true∧qan 58 (qaE s.ls qag)=true∧(Go.Proofs.YtdeimnnpcfncpaaGreatDoor.kindN s.bits≠4∨s.bits=9221120237041090561)∧(s.st=true∨s.t=0):=by
 unfold qaW at h;simp only[Bool.and_eq_true,Bool.or_eq_true,Bool.not_eq_true',beq_iff_eq,beq_eq_false_iff_ne] at h;exact⟨h.1,h.2.1,h.2.2.1,h.2.2.2⟩
theorem qgI {s:Smp} (h1:qaL s.ls=true) (h2:qan 58 (qaE s.ls qag)=true) (h3:Go.Proofs.YtdeimnnpcfncpaaGreatDoor.kindN s.bits≠4∨s.bits=9221120237041090561) (h4:s.st=true∨s.t=0):qaW s=true:=by
 unfold qaW;simp only[Bool.and_eq_true,Bool.or_eq_true,Bool.not_eq_true',beq_iff_eq,beq_eq_false_iff_ne];exact⟨h1,h2,h3,h4⟩
theorem qoz (t:Int) (h0: -9223372036854775808≤t) (h1:t≤9223372036854775807):Lib.itoa t≠[]∧ ∀c∈Lib.itoa t,nb c=true:=by
 rw[qdD];have hd:=qbT t.natAbs;obtain⟨c,r,e,_⟩:=L.dec_head t.natAbs;refine⟨?_,fun x hx=>?_⟩
 ·rw[e];simp
 ·rw[List.mem_append] at hx;rcases hx with hx|hx
  ·unfold sg at hx
   split at hx
   ·simp at hx;subst hx;decide
   ·cases hx
  ·exact qnV x (qbS (qaS hd x hx))
theorem qjc (t:Int) (h0: -9223372036854775808≤t) (h1:t≤9223372036854775807):qkK (Lib.itoa t)=some t:=by
 unfold qkK qf8;rw[L.atoi_itoa t h0 h1];simp
theorem qiw (all:List Lb) (s:Smp) (hb:s.bits<18446744073709551616) (h0: -9223372036854775808≤s.t) (h1:s.t≤9223372036854775807) (hk:Go.Proofs.YtdeimnnpcfncpaaGreatDoor.kindN s.bits≠4∨s.bits=9221120237041090561) (hst:s.st=true∨s.t=0):
 qcq all (qah s.bits++(if s.st then 32::Lib.itoa s.t else []))=qeV all s.bits s.st s.t:=by
 obtain⟨⟨e1,e2,e3⟩,e4⟩:=qcF s.bits hb
 obtain⟨w1,w2⟩:=qkX (qah s.bits) (if s.st then 32::Lib.itoa s.t else []) e2 (fun c hc=>by
  cases hs:s.st with
  |true=>rw[hs] at hc;cases hc;decide
  |false=>rw[hs] at hc;cases hc)
 have hp:=qeR s.bits hb (by
  rcases hk with hk|hk
  ·left
   cases hn:qdx s.bits with
   |false=>rfl
   |true=>exact absurd ((qnt s.bits hb).2 hn) hk
  ·exact .inr hk)
 unfold qcq;rw[w1,w2,hp];show qdM all s.bits _=_
 cases hs:s.st with
 |false=>
  rcases hst with g|g
  ·rw[hs] at g;cases g
  ·unfold qdM;rw[if_pos (by rfl),g]
 |true=>
  obtain⟨i1,i2⟩:=qoz s.t h0 h1
  have ht:tb (32::Lib.itoa s.t)=Lib.itoa s.t:=by
   rw[qfo 32 _ (by decide)];have:=qcu (Lib.itoa s.t) [] i1 i2;rwa[List.append_nil] at this
  obtain⟨v1,v2⟩:=qkX (Lib.itoa s.t) [] i2 (fun c hc=>by cases hc);rw[List.append_nil] at v1 v2;rw[if_pos rfl,ht];unfold qdM;rw[if_neg i1,v1,v2,qjc s.t h0 h1];rfl
theorem qeE (l n r:List UInt8) (hl:l.length≤65536) (h1:tb l=l) (h2:nm 58 l=n) (h3:nr 58 l=r) (hn:qan 58 n=true):
 qax l=if ((tb r).head?==some 123)=true then (if (qb7 (tb r).tail).1=0 then qcq ((qag,n)::(qb7 (tb r).tail).2.1) (tb (qb7 (tb r).tail).2.2) else ((qb7 (tb r).tail).1,qa6)) else qcq [(qag,n)] (tb (tb r)):=by
 subst h2 h3;unfold qax;rw[if_neg (by omega),h1,if_pos hn]
theorem qgG (s:Smp) (hb:s.bits<18446744073709551616) (h0: -9223372036854775808≤s.t) (h1:s.t≤9223372036854775807) (hr:qaW s=true) (hl:(qam s).length≤65536):qax (qam s)=(0,s):=by
 obtain⟨r1,r2,r3,r4⟩:=qaF hr;obtain⟨q1,q2,q3⟩:=(qaO _).1 r1;obtain⟨n1,n2,n3⟩:=qaR r2;have hm:=get_mem n1;have hp:=qjV q3 hm;have hof:=qmj r1 hp;obtain⟨⟨e1,e2,e3⟩,e4⟩:=qcF s.bits hb;have hnb: ∀c∈qaE s.ls qag,nb c=true:=fun c hc=>qhW (by decide) (n2 c hc)
 have hv:=fun all=>qiw all s hb h0 h1 r3 r4
 have hE:qeV ((qag,qaE s.ls qag)::s.ls.filter (fun x=>!(x.1==qag))) s.bits s.st s.t=(0,s):=by
  unfold qeV;rw[hof];simp
 have htx: ∀u,tb (32::(qah s.bits++u))=qah s.bits++u:=fun u=>by
  rw[qfo 32 _ (by decide),qcu _ _ e1 e2]
 have hx123: ∀u,¬((qah s.bits++u).head?==some 123)=true:=fun u=>by
  cases hx:qah s.bits with
  |nil=>exact absurd hx e1
  |cons c t=>
   have:=e3 c (by rw[hx];exact List.mem_cons_self ..);simpa using this
 by_cases ho:s.ls.filter (fun x=>!(x.1==qag))=[]
 ·have hT:qam s=qaE s.ls qag++(32::(qah s.bits++(if s.st then 32::Lib.itoa s.t else []))):=by
   unfold qam;dsimp only;rw[ho];rfl
  rw[ho] at hE;obtain⟨m1,m2⟩:=qgA 58 (qaE s.ls qag) (32::(qah s.bits++(if s.st then 32::Lib.itoa s.t else []))) n2 (fun c hc=>by cases hc;decide);rw[←hT] at m1 m2;have ht:tb (qam s)=qam s:=by rw[hT];exact qcu _ _ n1 hnb
  rw[qeE _ _ _ hl ht m1 m2 r2,htx,if_neg (hx123 _),qcu _ _ e1 e2,hv];exact hE
 ·have hT:qam s=qaE s.ls qag++(123::(qbj ((s.ls.filter (fun x=>!(x.1==qag))).map lbT)++125::(32::(qah s.bits++(if s.st then 32::Lib.itoa s.t else []))))):=by
   unfold qam;dsimp only;rw[if_neg ho];simp
  obtain⟨m1,m2⟩:=qgA 58 (qaE s.ls qag) (123::(qbj ((s.ls.filter (fun x=>!(x.1==qag))).map lbT)++125::(32::(qah s.bits++(if s.st then 32::Lib.itoa s.t else []))))) n2 (fun c hc=>by cases hc;decide);rw[←hT] at m1 m2;have ht:tb (qam s)=qam s:=by rw[hT];exact qcu _ _ n1 hnb
  have hg:=qgH (s.ls.filter (fun x=>!(x.1==qag))) (32::(qah s.bits++(if s.st then 32::Lib.itoa s.t else []))) ho
   (fun x hx=>qdG (q2 x (List.mem_filter.1 hx).1).1) (fun x hx=>by have:=(List.mem_filter.1 hx).2;simpa using this) (qcG _ (q3.filter _))
  rw[qeE _ _ _ hl ht m1 m2 r2,qb5 123 _ (by decide),if_pos (by rfl),List.tail_cons,hg,if_pos rfl];show qcq _ (tb (32::_))=_;rw[htx,hv];exact hE
theorem qee (M:Nat): ∀L:List (List UInt8),(∀a∈L,a.length≤M)→(qbj L).length≤L.length*(M+1)
 | [],_=>Nat.zero_le _
 | [a],h=>by
   have:=h a (List.mem_cons_self ..);show a.length≤_;simp;omega
 |a::b::t,h=>by
  have h1:=h a (List.mem_cons_self ..);have ih:=qee M (b::t) (fun x hx=>h x (List.mem_cons_of_mem _ hx));show(a++(44::qbj (b::t))).length≤_;rw[List.length_append,List.length_cons];rw[List.length_cons,Nat.succ_mul];omega
theorem qj2 (s:Smp) (hb:s.bits<18446744073709551616) (h0: -9223372036854775808≤s.t) (h1:s.t≤9223372036854775807) (hr:qaW s=true) (K:Nat) (hK: ∀x∈s.ls,x.2.length≤K):(qam s).length≤1400+s.ls.length*(132+2*K):=by
 obtain⟨r1,r2,r3,r4⟩:=qaF hr;obtain⟨q1,q2,q3⟩:=(qaO _).1 r1;obtain⟨n1,n2,n3⟩:=qaR r2;obtain⟨_,e4⟩:=qcF s.bits hb;have hi:=L.itoa_len s.t h0 h1
 have hj:=qee (131+2*K) ((s.ls.filter (fun x=>!(x.1==qag))).map lbT) (fun a ha=>by
  obtain⟨x,hx,rfl⟩:=List.mem_map.1 ha;have hx1:=(List.mem_filter.1 hx).1;have:=hK x hx1;have h2:=(qaR (qdG (q2 x hx1).1).1).2.2;have h3:=L.quL_len x.2;unfold lbT;simp only[List.length_append,List.length_cons,List.length_nil]
  omega)
 rw[List.length_map] at hj;have hfl:(s.ls.filter (fun x=>!(x.1==qag))).length≤s.ls.length:=List.length_filter_le _ _;have hm:(s.ls.filter (fun x=>!(x.1==qag))).length*(131+2*K+1)≤s.ls.length*(132+2*K):=Nat.mul_le_mul hfl (by omega);unfold qam;dsimp only;rw[List.length_append,List.length_append,List.length_cons,List.length_append]
 have a1:(if s.ls.filter (fun x=>!(x.1==qag))=[] then ([]:List UInt8) else 123::(qbj ((s.ls.filter (fun x=>!(x.1==qag))).map lbT)++[125])).length≤2+s.ls.length*(132+2*K):=by
  split
  ·simp
  ·rw[List.length_cons,List.length_append];simp;omega
 have a2:(if s.st=true then 32::Lib.itoa s.t else ([]:List UInt8)).length≤22:=by
  split
  ·rw[List.length_cons];omega
  ·simp
 omega
end Go.Proofs.YtdeimnnpcfncpaaGreatDoor.X
