/- Parts of the proof: E0 E1 E2 E3. -/
import Derived.Test.YtdeimnnpcfncpaaGreatDoorCL31
set_option linter.unusedVariables false
set_option linter.unusedSimpArgs false
set_option maxRecDepth 100000
set_option maxHeartbeats 64000000
namespace Go.Proofs.YtdeimnnpcfncpaaGreatDoor.X
open Go Go.RowKit
theorem qgU (X:List UInt8) (hl:X.length≤1200) (h1:qbw X=false) (h2:qaG X=true) (hF:qfM X):qdP X=some (qjw X):=by
 have hz:=qad X;have hd:(BS X).data.toList=X:=by simp[BS]
 obtain⟨a,e,H,S,T,hm,hl2⟩:=qeq (BS X) (by omega) (by rw[hd];exact h2);have mo:=qqi H;have hmv:mv (BS X) a e=qlY X:=by unfold mv qlY;rw[hl2,hd]
 have hx:xpt (mat (BS X) a e) (qjx (tlL X))=qlX X:=by unfold qlX;rw[hm,hd]
 rw[hd] at hm;have hbd:=qbS H e (Nat.le_of_lt H.lt) (Nat.le_refl _)
 have hn:qbb (qlY X) (qlX X) (v64 (qbW (qdv X)).mant (qaI (qbW (qdv X)) (qjx (tlL X)))):=by
  rw[←hmv,←hx,←hm]
  cases ht:(mat (BS X) a e).trunc with
  |false=>exact qh8 mo hbd.2.1 _ ht
  |true=>
   refine qjZ mo hbd.2.1 _ ht ?_;rw[hm];rw[hm] at ht;exact hF ht
 unfold qdP;rw[if_neg (by omega),if_neg (by rw[h1];decide),if_pos h2,qiB hn];rfl
theorem qeO (a:Nat) (ha:a<18446744073709551616) (hn:qdD a=false∨a=9221120237041090561):qdP (qai a)=some a:=by
 rcases hn with hn|rfl
 ·obtain⟨s,r,rfl,hr⟩:=qco a ha hn;rcases Nat.lt_or_ge r INF with hr'|hr'
  ·obtain⟨W,T,hX,hW,hT,hW0,hl,hA,hTl,k1,k2,k3,k4,k5,k6,k7⟩:=qcr s r hr';rw[qgU _ hl k2 k1 k4,k3]
  ·obtain rfl:=Nat.le_antisymm hr hr';cases s
   ·rw[qcc];unfold qdP;rw[if_neg (by decide),if_pos (by decide)];decide+kernel
   ·rw[qcb];unfold qdP;rw[if_neg (by decide),if_pos (by decide)];decide+kernel
 ·rw[show qai 9221120237041090561=[78,97,78] by decide+kernel];unfold qdP;rw[if_neg (by decide),if_pos (by decide)];decide+kernel
theorem qcy (t:List UInt8):t=t.take (qbo t)++t.drop (qbo t):=(List.take_append_drop _ _).symm
theorem qiF (m:List UInt8): ∃D,m=D++(qeD m).2∧(∀c∈D,okB c=true)∧D.count 46≤1:=by
 have hd:=qcV m;have hl:=qcy m;unfold qeD;dsimp only
 split
 ·rename_i hr
  refine⟨m.take (qbo m),?_,fun c hc=>qbR (hd c hc),by rw[qb7 _ hd];decide⟩;rw[hr] at hl;exact hl
 ·rename_i c t hr
  split
  ·rename_i hc
   subst hc;have ht:=qcV t;refine⟨m.take (qbo m)++46::t.take (qbo t),?_,?_,?_⟩
   ·rw[hr] at hl
    conv=>lhs;rw[hl,qcy t]
    simp
   ·intro c hc;rw[List.mem_append,List.mem_cons] at hc;rcases hc with hc|rfl|hc
    ·exact qbR (hd c hc)
    ·rfl
    ·exact qbR (ht c hc)
   ·rw[List.count_append,List.count_cons,qb7 _ hd,qb7 _ ht];decide
  ·refine⟨m.take (qbo m),?_,fun c hc=>qbR (hd c hc),by rw[qb7 _ hd];decide⟩;rw[hr] at hl;exact hl
theorem qf9 (l:List UInt8): ∃D,l=D++sgd l∧(∀c∈D,okB c=true)∧D.count 46=0:=by
 cases l with
 |nil=>exact⟨[],rfl,(fun c h=>by cases h),rfl⟩
 |cons c t=>
  by_cases g:c=43∨c=45
  ·refine⟨[c],by rw[sgd,if_pos g];rfl,fun x hx=>?_,?_⟩
   ·rcases g with rfl|rfl<;>(simp at hx;subst hx;rfl)
   ·rcases g with rfl|rfl<;>rfl
  ·exact⟨[],by rw[sgd,if_neg g];rfl,(fun c h=>by cases h),rfl⟩
theorem qjr (t:List UInt8) (h:qez t=true):(∀c∈t,okB c=true)∧t.count 46=0:=by
 cases t with
 |nil=>exact⟨(fun c h=>by cases h),rfl⟩
 |cons c t=>
  unfold qez at h;simp only[Bool.and_eq_true,Bool.or_eq_true,beq_iff_eq,decide_eq_true_eq] at h;obtain⟨h1,_,h3⟩:=h;have hd:=qd8 _ h3;obtain⟨D,e,o,n⟩:=qf9 t;refine⟨fun x hx=>?_,?_⟩
  ·rw[List.mem_cons,e,List.mem_append] at hx;rcases hx with rfl|hx|hx
   ·rcases h1 with rfl|rfl<;>rfl
   ·exact o x hx
   ·exact qbR (hd x hx)
  ·rw[List.count_cons,e,List.count_append,n,qb7 _ hd];rcases h1 with rfl|rfl<;>rfl
theorem qcJ (l:List UInt8) (h:qaG l=true):(∀c∈l,okB c=true)∧l.count 46≤1:=by
 unfold qaG at h;rw[Bool.and_eq_true] at h;obtain⟨D1,e1,o1,n1⟩:=qf9 l;obtain⟨D2,e2,o2,n2⟩:=qiF (sgd l);obtain⟨o3,n3⟩:=qjr _ h.2;generalize (qeD (sgd l)).2=T at*;rw[e2] at e1;refine⟨fun x hx=>?_,?_⟩
 ·rw[e1,List.mem_append,List.mem_append] at hx;rcases hx with hx|hx|hx
  ·exact o1 x hx
  ·exact o2 x hx
  ·exact o3 x hx
 ·rw[e1,List.count_append,List.count_append,n1,n3];omega
theorem qoN (c:UInt8) (h:okB c=true):nb c=true:=by
 unfold nb;have h1:c≠32:=fun e=>by subst e;exact absurd h (by decide)
 have h2:c≠9:=fun e=>by subst e;exact absurd h (by decide)
 simp[h1,h2]
theorem qcU (a:Nat) (ha:a<18446744073709551616):(qai a≠[]∧(∀c∈qai a,nb c=true)∧ ∀c∈qai a,c≠123)∧(qai a).length≤1200:=by
 cases hn:qdD a with
 |true=>
  have hk:=(qlO a ha).2 hn;have eb:qai a=[78,97,78]:=by unfold qai;rw[if_pos hk]
  rw[eb];exact⟨⟨by decide,by decide,by decide⟩,by decide⟩
 |false=>
  obtain⟨s,r,rfl,hr⟩:=qco a ha hn;rcases Nat.lt_or_ge r INF with hr'|hr'
  ·obtain⟨W,T,hX,hW,hT,hW0,hl,hA,hTl,k1,k2,k3,k4,k5,k6,k7⟩:=qcr s r hr';refine⟨⟨?_,fun c hc=>qoN c ((qcJ _ k1).1 c hc),fun c hc e=>?_⟩,hl⟩
   case refine_2=>
    have:=(qcJ _ k1).1 c hc;subst e;exact absurd this (by decide)
   rw[hX];intro e;have:=(List.append_eq_nil_iff.1 e).2;exact hW0 (List.append_eq_nil_iff.1 this).1
  ·obtain rfl:=Nat.le_antisymm hr hr';cases s
   ·rw[qcc];exact⟨⟨by decide,by decide,by decide⟩,by decide⟩
   ·rw[qcb];exact⟨⟨by decide,by decide,by decide⟩,by decide⟩
theorem qb6 (c:UInt8) (t:List UInt8) (h:nb c=true):tb (c::t)=c::t:=by
 unfold tb Lib.trimLeftS;rw[List.dropWhile_cons_of_neg];unfold nb at h;simpa using h
theorem qfR (c:UInt8) (t:List UInt8) (h:nb c=false):tb (c::t)=tb t:=by
 unfold tb Lib.trimLeftS;rw[List.dropWhile_cons_of_pos];unfold nb at h;simpa only[Bool.not_eq_false'] using h
theorem qcC (a r:List UInt8) (h0:a≠[]) (h: ∀c∈a,nb c=true):tb (a++r)=a++r:=by
 cases a with
 |nil=>exact absurd rfl h0
 |cons c t=>exact qb6 c _ (h c (List.mem_cons_self ..))
theorem qkT (a r:List UInt8) (h: ∀c∈a,nb c=true) (hr: ∀c,r.head?=some c→nb c=false):wd (a++r)=a∧wr (a++r)=r:=by
 unfold wd wr
 induction a with
 |nil=>
  cases r with
  |nil=>exact⟨rfl,rfl⟩
  |cons c t=>rw[List.nil_append,List.takeWhile_cons_of_neg (by rw[hr c rfl];decide),List.dropWhile_cons_of_neg (by rw[hr c rfl];decide)];exact⟨rfl,rfl⟩
 |cons c t ih=>
  have hc:=h c (List.mem_cons_self ..);obtain⟨i1,i2⟩:=ih (fun x hx=>h x (List.mem_cons_of_mem _ hx));rw[List.cons_append,List.takeWhile_cons_of_pos hc,List.dropWhile_cons_of_pos hc,i1,i2];exact⟨rfl,rfl⟩
theorem qgc (o:UInt8) (a r:List UInt8) (h: ∀c∈a,nch o c=true) (hr: ∀c,r.head?=some c→nch o c=false):nm o (a++r)=a∧nr o (a++r)=r:=by
 unfold nm nr
 induction a with
 |nil=>
  cases r with
  |nil=>exact⟨rfl,rfl⟩
  |cons c t=>rw[List.nil_append,List.takeWhile_cons_of_neg (by rw[hr c rfl];decide),List.dropWhile_cons_of_neg (by rw[hr c rfl];decide)];exact⟨rfl,rfl⟩
 |cons c t ih=>
  have hc:=h c (List.mem_cons_self ..);obtain⟨i1,i2⟩:=ih (fun x hx=>h x (List.mem_cons_of_mem _ hx));rw[List.cons_append,List.takeWhile_cons_of_pos hc,List.dropWhile_cons_of_pos hc,i1,i2];exact⟨rfl,rfl⟩
theorem qaR {o:UInt8} {n:List UInt8} (h:qak o n=true):n≠[]∧(∀c∈n,nch o c=true)∧n.length≤128:=by
 unfold qak at h;simp only[Bool.and_eq_true,decide_eq_true_eq] at h;obtain⟨⟨h1,h2⟩,h3,h4⟩:=h
 cases n with
 |nil=>simp at h1
 |cons c t=>
  refine⟨by simp,fun x hx=>?_,h2⟩;rcases List.mem_cons.1 hx with rfl|hx
  ·unfold nch;rw[show ltr o x=true from h3];rfl
  ·have:=List.all_eq_true.1 h4 x hx;exact this
theorem qhL {o c:UInt8} (ho:nb o=true) (h:nch o c=true):nb c=true:=by
 cases hb:nb c with
 |true=>rfl
 |false=>
  have:c=32∨c=9:=by
   unfold nb at hb
   by_cases h3:c=32
   ·exact .inl h3
   ·right;simp at hb;exact hb h3
  rcases this with rfl|rfl
  ·have:nch o 32=((32:UInt8)==o):=by unfold nch;rw[show isD 32=false by decide,Bool.or_false];unfold ltr;rfl
   rw[this] at h;rw[beq_iff_eq] at h;rw[←h] at ho;cases ho
  ·have:nch o 9=((9:UInt8)==o):=by unfold nch;rw[show isD 9=false by decide,Bool.or_false];unfold ltr;rfl
   rw[this] at h;rw[beq_iff_eq] at h;rw[←h] at ho;cases ho
namespace Q
open L
theorem qnE (c:UInt8) (t:List UInt8):quL (c::t)=encq c++quL t:=by simp[quL]
theorem qeH (c:UInt8) (l:List UInt8) (hl:l≠[]) (h1:c≠10) (h2:c≠34) (h3:c≠92):rdq (c::l)=comb [c] 1 (rdq l):=by
 cases l with
 |nil=>exact absurd rfl hl
 |cons x t=>rw[rdq,if_neg h1,if_neg h2,if_neg h3]
theorem rdq_quL (t r:List UInt8):rdq (quL t++34::r)=(0,t,(quL t).length):=by
 induction t with
 |nil=>cases r<;>rfl
 |cons c t ih=>
  rw[qnE,List.append_assoc,List.length_append];unfold encq
  by_cases h1:c=92
  ·subst h1;show rdq (92::92::(quL t++34::r))=_;rw[rdq,if_neg (by decide),if_neg (by decide),if_pos rfl,if_neg (by decide),ih];simp[comb,esc]
  ·rw[if_neg h1]
   by_cases h2:c=10
   ·subst h2;show rdq (92::110::(quL t++34::r))=_;rw[rdq,if_neg (by decide),if_neg (by decide),if_pos rfl,if_neg (by decide),ih];simp[comb,esc]
   ·rw[if_neg h2]
    by_cases h3:c=34
    ·subst h3;show rdq (92::34::(quL t++34::r))=_;rw[rdq,if_neg (by decide),if_neg (by decide),if_pos rfl,if_neg (by decide),ih];simp[comb,esc]
    ·rw[if_neg h3];show rdq (c::(quL t++34::r))=_;rw[qeH c _ (by simp) h2 h3 h1,ih];simp[comb]
end Q
theorem qmS (v r:List UInt8) (h:qbk v=true):quo (34::(L.quL v++34::r))=some (v,r):=by
 have hq:quA (34::(L.quL v++34::r))=(0,v,(L.quL v).length+2):=by
  unfold quA;rw[if_pos (by simp)];unfold L.quF;rw[show(34::(L.quL v++34::r):List UInt8).drop 1=L.quL v++34::r from rfl,Q.rdq_quL];simp[L.comb]
 unfold quo;rw[hq,if_pos ⟨rfl,h⟩];show some (v,_)=_;rw[show(34::(L.quL v++34::r):List UInt8).drop ((L.quL v).length+2)=(L.quL v++34::r).drop ((L.quL v).length+1)from rfl];rw[List.drop_append,List.drop_of_length_le (by omega),Nat.add_sub_cancel_left];rfl
theorem qhu (x:Lb) (r:List UInt8):lbT x++r=x.1++(61::(34::(L.quL x.2++34::r))):=by
 unfold lbT;simp
theorem qrC:nch 95 61=false:=by decide
theorem qej (a b:List UInt8) (t:List (List UInt8)) (r:List UInt8):qbj (a::b::t)++r=a++(44::(qbj (b::t)++r)):=by
 show(a++(44::qbj (b::t)))++r=_;simp
def qjT (o:List Lb):Prop:= ∀x∈o,qak 95 x.1=true∧qbk x.2=true
theorem qip (f:Nat) (x:Lb) (r:List UInt8) (out:List Lb) (h1:qak 95 x.1=true) (h2:qbk x.2=true) (hs:(x.1==qah)=false) (ho:qcv out x.1=false) (hr: ∃c t,r=c::t∧nb c=true):
 qfD (f+1) (lbT x++r) out=if (r.head?==some 44)=true then qfD f (tb r.tail) (out++[x]) else if (r.head?==some 125)=true then qfD f r (out++[x]) else (231,[],[]):=by
 obtain⟨c1,c2,c3⟩:=qaR h1;obtain⟨a1,a2⟩:=qgc 95 x.1 (61::(34::(L.quL x.2++34::r))) c2 (fun c hc=>by cases hc;exact qrC);obtain⟨c,t,rfl,hc⟩:=hr;rw[qhu];rw[qfD]
 have hh:((x.1++(61::(34::(L.quL x.2++34::(c::t))))).head?==some 125)=false:=by
  cases hx:x.1 with
  |nil=>exact absurd hx c1
  |cons y s=>
   have:=c2 y (by rw[hx];exact List.mem_cons_self ..);simp only[List.cons_append,List.head?_cons];rw[beq_eq_false_iff_ne];intro e;cases e;exact absurd this (by decide)
 rw[if_neg (by rw[hh];decide),a1,a2,h1];rw[qb6 61 _ (by decide)];rw[if_pos (by rfl)];rw[show(61::34::(L.quL x.2++34::c::t):List UInt8).tail=34::(L.quL x.2++34::c::t)from rfl,qb6 34 _ (by decide),qmS x.2 (c::t) h2];simp only[hs,ho,Bool.or_self,Bool.false_eq_true,if_false];rw[qb6 c t hc]
theorem qiL {n:List UInt8} (h:qak 95 n=true): ∃c t,n=c::t∧nb c=true:=by
 obtain⟨c1,c2,c3⟩:=qaR h
 cases n with
 |nil=>exact absurd rfl c1
 |cons c t=>exact⟨c,t,rfl,qhL (by decide) (c2 c (List.mem_cons_self ..))⟩
theorem qgM (x:Lb) (o:List Lb) (r:List UInt8) (h:qak 95 x.1=true): ∃c t,qbj ((x::o).map lbT)++r=c::t∧nb c=true:=by
 obtain⟨c,t,e,hc⟩:=qiL h
 cases o with
 |nil=>
  refine⟨c,t++(61::(34::(L.quL x.2++34::r))),?_,hc⟩;show lbT x++r=_;rw[qhu,e];rfl
 |cons y s=>
  refine⟨c,t++(61::(34::(L.quL x.2++34::(44::(qbj ((y::s).map lbT)++r))))),?_,hc⟩;show qbj (lbT x::lbT y::s.map lbT)++r=_;rw[qej,qhu,e];rfl
theorem qgm: ∀(o:List Lb) (f:Nat) (r:List UInt8) (out:List Lb),o≠[]→o.length<f→qjT o→(∀x∈o,(x.1==qah)=false)→qaN (out++o)=false→
 qfD f (qbj (o.map lbT)++125::r) out=(0,out++o,r)
 | [],_,_,_,h,_,_,_,_=>absurd rfl h
 | [x],f,r,out,_,hf,hk,hn,ht=>by
   obtain⟨g,rfl⟩: ∃g,f=g+2:=⟨f - 2,by simp at hf;omega⟩;obtain⟨k1,k2⟩:=hk x (List.mem_cons_self ..)
   have ho:qcv out x.1=false:=by
    rw[←Bool.not_eq_true,qca];rintro⟨y,hy,e⟩;have h3:=(qaV _).1 ht;rw[List.map_append,List.nodup_append] at h3;exact h3.2.2 y.1 (List.mem_map_of_mem hy) x.1 (by simp) e
   show qfD (g+1+1) (lbT x++125::r) out=_;rw[qip (g+1) x (125::r) out k1 k2 (hn x (List.mem_cons_self ..)) ho ⟨125,r,rfl,by decide⟩];rw[if_neg (by simp),if_pos (by simp),qfD,if_pos (by simp)];rfl
 |x::y::t,f,r,out,_,hf,hk,hn,ht=>by
  obtain⟨g,rfl⟩: ∃g,f=g+1:=⟨f - 1,by simp at hf;omega⟩;obtain⟨k1,k2⟩:=hk x (List.mem_cons_self ..)
  have ho:qcv out x.1=false:=by
   rw[←Bool.not_eq_true,qca];rintro⟨z,hz,e⟩;have h3:=(qaV _).1 ht;rw[List.map_append,List.nodup_append] at h3;exact h3.2.2 z.1 (List.mem_map_of_mem hz) x.1 (by simp) e
  have hk2:qjT (y::t):=fun z hz=>hk z (List.mem_cons_of_mem _ hz)
  show qfD (g+1) (qbj (lbT x::lbT y::t.map lbT)++125::r) out=_;rw[qej];rw[qip g x _ out k1 k2 (hn x (List.mem_cons_self ..)) ho ⟨44,_,rfl,by decide⟩];rw[if_pos (by simp),List.tail_cons];obtain⟨c,u,e,hc⟩:=qgM y t (125::r) (hk2 y (List.mem_cons_self ..)).1;have he:qbj (lbT y::t.map lbT)++125::r=c::u:=e;rw[he,qb6 c u hc,←he];have:=qgm (y::t) g r (out++[x]) (by simp) (by simp at hf⊢;omega) hk2 (fun z hz=>hn z (List.mem_cons_of_mem _ hz)) (by rw[List.append_assoc];exact ht);rw[List.append_assoc] at this;exact this
theorem qgh (o:List Lb) (r:List UInt8) (h0:o≠[]) (hk:qjT o) (hn: ∀x∈o,(x.1==qah)=false) (ht:qaN o=false):qbX (qbj (o.map lbT)++125::r)=(0,o,r):=by
 unfold qbX
 cases o with
 |nil=>exact absurd rfl h0
 |cons x t=>
  obtain⟨c,u,e,hc⟩:=qgM x t (125::r) (hk x (List.mem_cons_self ..)).1;rw[e,qb6 c u hc,←e];refine(qgm (x::t) _ r [] (by simp) ?_ hk hn (by simpa using ht)).trans (by simp)
  have hl: ∀(s:List Lb),s.length≤(qbj (s.map lbT)).length+1:=by
   intro s
   induction s with
   |nil=>simp
   |cons a s ih=>
    cases s with
    |nil=>simp
    |cons b s=>
     have:=congrArg List.length (qej (lbT a) (lbT b) (s.map lbT) []);simp only[List.append_nil,List.length_append,List.length_cons] at this;simp only[List.map_cons,List.length_cons] at ih⊢;omega
  have:=hl (x::t);simp only[List.length_append,List.length_cons] at this⊢;omega
theorem qjz: ∀a b:List UInt8,Op.bytesLess a b=true↔a<b
 | [],[]=>by simp[Op.bytesLess]
 |_::_,[]=>by simp[Op.bytesLess]
 | [],_::_=>by simp[Op.bytesLess]
 |a::x,b::y=>by
  rw[Op.bytesLess,List.cons_lt_cons_iff,Bool.or_eq_true,Bool.and_eq_true,qjz x y,decide_eq_true_iff,beq_iff_eq]
theorem qoS (a b:List UInt8):leB a b=false↔b<a:=by
 unfold leB;rw[Bool.or_eq_false_iff,←Bool.not_eq_true,qjz,beq_eq_false_iff_ne];constructor
 ·rintro⟨h1,h2⟩;rcases qhR a b with g|g|g
  ·exact absurd g h1
  ·exact absurd g h2
  ·exact g
 ·intro h;exact⟨fun g=>qbV _ (qi0 g h),fun g=>by rw[g] at h;exact qbV _ h⟩
def qt9 (x:Lb):Prop:=qb8 x=0∧emp x=false
theorem qh6: ∀(ls:List Lb) (i:Nat) (p:Option (List UInt8)),(chk i p ls).2=0↔(∀x∈ls,qt9 x)∧Inc ls∧(∀n,p=some n→ ∀x,ls.head?=some x→n<x.1)
 | [],i,p=>by simp[chk,Inc]
 |x::t,i,p=>by
  rw[chk]
  by_cases h1:qb8 x=0
  ·rw[if_neg (by simpa using h1)]
   by_cases h2:qh4 p x=true
   ·rw[if_pos h2];constructor
    ·intro h;cases h
    ·rintro⟨k1,k2,k3⟩;exfalso;unfold qh4 at h2;rw[Bool.or_eq_true] at h2;rcases h2 with h2|h2
     ·have:=(k1 x (List.mem_cons_self ..)).2;unfold emp at this;rw[this] at h2;cases h2
     ·cases p with
      |none=>cases h2
      |some n=>
       have:=(qoS x.1 n).2 (k3 n rfl x rfl);simp only at h2;rw[this] at h2;cases h2
   ·rw[if_neg h2,qh6 t (i+1) (some x.1)];have h2':qh4 p x=false:=by simpa using h2
    unfold qh4 at h2';rw[Bool.or_eq_false_iff] at h2';constructor
    ·rintro⟨k1,k2,k3⟩;refine⟨fun y hy=>?_,?_,?_⟩
     ·rcases List.mem_cons.1 hy with rfl|hy
      ·exact⟨h1,h2'.1⟩
      ·exact k1 y hy
     ·refine List.pairwise_cons.2 ⟨fun y hy=>?_,k2⟩
      cases t with
      |nil=>cases hy
      |cons z s=>
       have hz:=k3 x.1 rfl z rfl;rcases List.mem_cons.1 hy with rfl|hy
       ·exact hz
       ·exact qi0 hz ((List.pairwise_cons.1 k2).1 y hy)
     ·intro n hn y hy;cases hy;subst hn;exact(qoS x.1 n).1 h2'.2
    ·rintro⟨k1,k2,k3⟩;obtain⟨i1,i2⟩:=List.pairwise_cons.1 k2
     exact⟨fun y hy=>k1 y (List.mem_cons_of_mem _ hy),i2,fun n hn y hy=>by
      cases hn
      exact i1 y (List.mem_of_mem_head? hy)⟩
  ·rw[if_pos (by simpa using h1)];constructor
   ·intro h;exact absurd h h1
   ·rintro⟨k1,_⟩;exact absurd (k1 x (List.mem_cons_self ..)).1 h1
theorem qaH (ls:List Lb):qaO ls=true↔ls.length≤64∧(∀x∈ls,qt9 x)∧Inc ls:=by
 unfold qaO qcA;rw[beq_iff_eq]
 by_cases h:64<ls.length
 ·rw[if_pos h];constructor
  ·intro h;cases h
  ·rintro⟨k,_⟩;omega
 ·rw[if_neg h,qh6];constructor
  ·rintro⟨a,b,_⟩;exact⟨by omega,a,b⟩
  ·rintro⟨_,a,b⟩;exact⟨a,b,fun n hn=>by cases hn⟩
theorem qd9 {x:Lb} (h:qb8 x=0):qak 95 x.1=true∧qbk x.2=true:=by
 unfold qb8 at h
 split at h
 ·rename_i g
  split at h
  ·rename_i g2;exact⟨g,g2⟩
  ·cases h
 ·cases h
theorem ok_one {x:Lb} (h1:qak 95 x.1=true) (h2:qbk x.2=true):qb8 x=0:=by
 unfold qb8;rw[if_pos h1,if_pos h2]
theorem qit (ls:List Lb):qaS ls=0↔ ∀x∈ls,qb8 x=0:=by
 induction ls with
 |nil=>simp[qaS]
 |cons x t ih=>
  unfold qaS
  by_cases h:qb8 x=0
  ·rw[if_pos h,ih];constructor
   ·intro k y hy;rcases List.mem_cons.1 hy with rfl|hy
    ·exact h
    ·exact k y hy
   ·intro k y hy;exact k y (List.mem_cons_of_mem _ hy)
  ·rw[if_neg h];constructor
   ·intro k;exact absurd k h
   ·intro k;exact absurd (k x (List.mem_cons_self ..)) h
theorem qny {all ls:List Lb} (hr:qaO ls=true) (hp:all.Perm ls):ofF all=(0,ls):=by
 obtain⟨r1,r2,r3⟩:=(qaH ls).1 hr;have f0:qaS all=0:=(qit all).2 fun x hx=>(r2 x (hp.mem_iff.1 hx)).1
 have t0:qaN all=false:=by rw[qcm hp];exact qcL _ r3
 have hs:srt all=ls:=qjW _ _ (qfr all t0) r3 (fun x=>by rw[qfw];exact hp.mem_iff);have hf:ls.filter (fun x=>!emp x)=ls:=List.filter_eq_self.2 fun x hx=>by rw[(r2 x hx).2];rfl
 unfold ofF;rw[if_pos f0,if_neg (by rw[t0];decide),hs,hf,if_neg (by omega)]
theorem qgF {all ls:List Lb} (h:ofF all=(0,ls)):qaO ls=true∧ ∀x,x∈ls↔x∈all∧emp x=false:=by
 unfold ofF at h
 split at h
 ·rename_i f0
  split at h
  ·cases h
  ·rename_i t0
   split at h
   ·cases h
   ·rename_i h64
    have e:(srt all).filter (fun x=>!emp x)=ls:=congrArg Prod.snd h;have t0':qaN all=false:=by simpa using t0
    have hm: ∀x,x∈ls↔x∈all∧emp x=false:=fun x=>by
     rw[←e,List.mem_filter,qfw];simp
    refine⟨(qaH ls).2 ⟨by rw[←e];omega,fun x hx=>⟨(qit all).1 f0 x ((hm x).1 hx).1,((hm x).1 hx).2⟩,?_⟩,hm⟩;rw[←e];exact(qfr all t0').filter _
 ·rename_i f0
  exact absurd (congrArg Prod.fst h) f0
theorem qks {ls:List Lb} (h:Inc ls) {x:Lb} (hx:x∈ls):qaF ls x.1=x.2:=by
 induction ls with
 |nil=>cases hx
 |cons y t ih=>
  obtain⟨h1,h2⟩:=List.pairwise_cons.1 h;unfold qaF;rw[List.find?_cons];rcases List.mem_cons.1 hx with rfl|hx
  ·rw[show(x.1==x.1)=true from beq_self_eq_true _]
  ·have hne:(y.1==x.1)=false:=by
    rw[beq_eq_false_iff_ne];intro e;have:=h1 x hx;rw[e] at this;exact qbV _ this
   rw[hne];exact ih h2 hx
theorem get_mem {ls:List Lb} {n:List UInt8} (h:qaF ls n≠[]):(n,qaF ls n)∈ls:=by
 unfold qaF at h⊢
 cases hf:ls.find? (fun x=>x.1==n)with
 |none=>rw[hf] at h;exact absurd rfl h
 |some x=>
  have h1:=List.mem_of_find?_eq_some hf;have h2:=List.find?_some hf;have h3:x.1=n:=by simpa using h2
  show(n,x.2)∈ls;rw[←h3];exact h1
theorem qkv {ls:List Lb} (hi:Inc ls) {n v:List UInt8} (h:(n,v)∈ls):((n,v)::ls.filter (fun x=>!(x.1==n))).Perm ls:=by
 induction ls with
 |nil=>cases h
 |cons y t ih=>
  obtain⟨h1,h2⟩:=List.pairwise_cons.1 hi;rcases List.mem_cons.1 h with rfl|h
  ·have:((n,v)::t).filter (fun x=>!(x.1==n))=t:=by
    rw[List.filter_cons_of_neg (by simp)];refine List.filter_eq_self.2 fun x hx=>?_
    have:=h1 x hx;simp only[Bool.not_eq_true',beq_eq_false_iff_ne];intro e;rw[e] at this;exact qbV _ this
   rw[this]
  ·have hne:(!(y.1==n))=true:=by
    simp only[Bool.not_eq_true',beq_eq_false_iff_ne];intro e;have:=h1 _ h;rw[e] at this;exact qbV _ this
   rw[List.filter_cons_of_pos (p:=fun x:Lb=>!(x.1==n)) hne];exact(List.Perm.swap _ _ _).trans ((ih h2 h).cons y)
theorem qaJ {s:Smp} (h:qaT s=true):qaO s.ls=true∧qak 58 (qaF s.ls qah)=true∧(Go.Proofs.YtdeimnnpcfncpaaGreatDoor.kindN s.bits≠4∨s.bits=9221120237041090561)∧(s.st=true∨s.t=0):=by
 unfold qaT at h;simp only[Bool.and_eq_true,Bool.or_eq_true,Bool.not_eq_true',beq_iff_eq,beq_eq_false_iff_ne] at h;exact⟨h.1,h.2.1,h.2.2.1,h.2.2.2⟩
theorem qdu {s:Smp} (h1:qaO s.ls=true) (h2:qak 58 (qaF s.ls qah)=true) (h3:Go.Proofs.YtdeimnnpcfncpaaGreatDoor.kindN s.bits≠4∨s.bits=9221120237041090561) (h4:s.st=true∨s.t=0):qaT s=true:=by
 unfold qaT;simp only[Bool.and_eq_true,Bool.or_eq_true,Bool.not_eq_true',beq_iff_eq,beq_eq_false_iff_ne];exact⟨h1,h2,h3,h4⟩
theorem qpu (t:Int) (h0: -9223372036854775808≤t) (h1:t≤9223372036854775807):Lib.itoa t≠[]∧ ∀c∈Lib.itoa t,nb c=true:=by
 rw[qec];have hd:=qbT t.natAbs;obtain⟨c,r,e,_⟩:=L.dec_head t.natAbs;refine⟨?_,fun x hx=>?_⟩
 ·rw[e];simp
 ·rw[List.mem_append] at hx;rcases hx with hx|hx
  ·unfold sg at hx
   split at hx
   ·simp at hx;subst hx;decide
   ·cases hx
  ·exact qoN x (qbR (qaX hd x hx))
theorem qjS (t:Int) (h0: -9223372036854775808≤t) (h1:t≤9223372036854775807):qjf (Lib.itoa t)=some t:=by
 unfold qjf qeJ;rw[L.atoi_itoa t h0 h1];simp
theorem qji (all:List Lb) (s:Smp) (hb:s.bits<18446744073709551616) (h0: -9223372036854775808≤s.t) (h1:s.t≤9223372036854775807) (hk:Go.Proofs.YtdeimnnpcfncpaaGreatDoor.kindN s.bits≠4∨s.bits=9221120237041090561) (hst:s.st=true∨s.t=0):
 qb2 all (qai s.bits++(if s.st then 32::Lib.itoa s.t else []))=qdS all s.bits s.st s.t:=by
 obtain⟨⟨e1,e2,e3⟩,e4⟩:=qcU s.bits hb
 obtain⟨w1,w2⟩:=qkT (qai s.bits) (if s.st then 32::Lib.itoa s.t else []) e2 (fun c hc=>by
  cases hs:s.st with
  |true=>rw[hs] at hc;cases hc;decide
  |false=>rw[hs] at hc;cases hc)
 have hp:=qeO s.bits hb (by
  rcases hk with hk|hk
  ·left
   cases hn:qdD s.bits with
   |false=>rfl
   |true=>exact absurd ((qlO s.bits hb).2 hn) hk
  ·exact .inr hk)
 unfold qb2;rw[w1,w2,hp];show qdk all s.bits _=_
 cases hs:s.st with
 |false=>
  rcases hst with g|g
  ·rw[hs] at g;cases g
  ·unfold qdk;rw[if_pos (by rfl),g]
 |true=>
  obtain⟨i1,i2⟩:=qpu s.t h0 h1
  have ht:tb (32::Lib.itoa s.t)=Lib.itoa s.t:=by
   rw[qfR 32 _ (by decide)];have:=qcC (Lib.itoa s.t) [] i1 i2;rwa[List.append_nil] at this
  obtain⟨v1,v2⟩:=qkT (Lib.itoa s.t) [] i2 (fun c hc=>by cases hc);rw[List.append_nil] at v1 v2;rw[if_pos rfl,ht];unfold qdk;rw[if_neg i1,v1,v2,qjS s.t h0 h1];rfl
theorem qe8 (l n r:List UInt8) (hl:l.length≤65536) (h1:tb l=l) (h2:nm 58 l=n) (h3:nr 58 l=r) (hn:qak 58 n=true):
 qaq l=if ((tb r).head?==some 123)=true then (if (qbX (tb r).tail).1=0 then qb2 ((qah,n)::(qbX (tb r).tail).2.1) (tb (qbX (tb r).tail).2.2) else ((qbX (tb r).tail).1,qba)) else qb2 [(qah,n)] (tb (tb r)):=by
 subst h2 h3;unfold qaq;rw[if_neg (by omega),h1,if_pos hn]
theorem qjB (s:Smp) (hb:s.bits<18446744073709551616) (h0: -9223372036854775808≤s.t) (h1:s.t≤9223372036854775807) (hr:qaT s=true) (hl:(qaC s).length≤65536):qaq (qaC s)=(0,s):=by
 obtain⟨r1,r2,r3,r4⟩:=qaJ hr;obtain⟨q1,q2,q3⟩:=(qaH _).1 r1;obtain⟨n1,n2,n3⟩:=qaR r2;have hm:=get_mem n1;have hp:=qkv q3 hm;have hof:=qny r1 hp;obtain⟨⟨e1,e2,e3⟩,e4⟩:=qcU s.bits hb;have hnb: ∀c∈qaF s.ls qah,nb c=true:=fun c hc=>qhL (by decide) (n2 c hc)
 have hv:=fun all=>qji all s hb h0 h1 r3 r4
 have hE:qdS ((qah,qaF s.ls qah)::s.ls.filter (fun x=>!(x.1==qah))) s.bits s.st s.t=(0,s):=by
  unfold qdS;rw[hof];simp
 have htx: ∀u,tb (32::(qai s.bits++u))=qai s.bits++u:=fun u=>by
  rw[qfR 32 _ (by decide),qcC _ _ e1 e2]
 have hx123: ∀u,¬((qai s.bits++u).head?==some 123)=true:=fun u=>by
  cases hx:qai s.bits with
  |nil=>exact absurd hx e1
  |cons c t=>
   have:=e3 c (by rw[hx];exact List.mem_cons_self ..);simpa using this
 by_cases ho:s.ls.filter (fun x=>!(x.1==qah))=[]
 ·have hT:qaC s=qaF s.ls qah++(32::(qai s.bits++(if s.st then 32::Lib.itoa s.t else []))):=by
   unfold qaC;dsimp only;rw[ho];rfl
  rw[ho] at hE;obtain⟨m1,m2⟩:=qgc 58 (qaF s.ls qah) (32::(qai s.bits++(if s.st then 32::Lib.itoa s.t else []))) n2 (fun c hc=>by cases hc;decide);rw[←hT] at m1 m2;have ht:tb (qaC s)=qaC s:=by rw[hT];exact qcC _ _ n1 hnb
  rw[qe8 _ _ _ hl ht m1 m2 r2,htx,if_neg (hx123 _),qcC _ _ e1 e2,hv];exact hE
 ·have hT:qaC s=qaF s.ls qah++(123::(qbj ((s.ls.filter (fun x=>!(x.1==qah))).map lbT)++125::(32::(qai s.bits++(if s.st then 32::Lib.itoa s.t else []))))):=by
   unfold qaC;dsimp only;rw[if_neg ho];simp
  obtain⟨m1,m2⟩:=qgc 58 (qaF s.ls qah) (123::(qbj ((s.ls.filter (fun x=>!(x.1==qah))).map lbT)++125::(32::(qai s.bits++(if s.st then 32::Lib.itoa s.t else []))))) n2 (fun c hc=>by cases hc;decide);rw[←hT] at m1 m2;have ht:tb (qaC s)=qaC s:=by rw[hT];exact qcC _ _ n1 hnb
  have hg:=qgh (s.ls.filter (fun x=>!(x.1==qah))) (32::(qai s.bits++(if s.st then 32::Lib.itoa s.t else []))) ho
   (fun x hx=>qd9 (q2 x (List.mem_filter.1 hx).1).1) (fun x hx=>by have:=(List.mem_filter.1 hx).2;simpa using this) (qcL _ (q3.filter _))
  rw[qe8 _ _ _ hl ht m1 m2 r2,qb6 123 _ (by decide),if_pos (by rfl),List.tail_cons,hg,if_pos rfl];show qb2 _ (tb (32::_))=_;rw[htx,hv];exact hE
theorem qek {n:Nat} {p:Int} {r:Nat} (h:qbb n p r):r≤INF:=h.1
theorem qpD {l:List UInt8} {b:Nat} (h:qdP l=some b):b<18446744073709551616∧(Go.Proofs.YtdeimnnpcfncpaaGreatDoor.kindN b≠4∨b=9221120237041090561):=by
 have key: ∀s r,r≤INF→sgw s+r<18446744073709551616∧Go.Proofs.YtdeimnnpcfncpaaGreatDoor.kindN (sgw s+r)≠4:=fun s r hr=>by
  have hI:INF<9223372036854775808:=by decide
  have hlt:sgw s+r<18446744073709551616:=by unfold sgw;split<;>omega
  refine⟨hlt,fun hk=>?_⟩;have hn:=(qlO _ hlt).1 hk;unfold qdD at hn;have hn2:=of_decide_eq_true hn;have:(sgw s+r)%9223372036854775808=r:=by unfold sgw;split<;>omega
  omega
 unfold qdP at h
 split at h
 ·cases h
 ·split at h
  ·rename_i g
   cases h;rcases qkB l g with rfl|rfl|rfl|rfl
   ·exact⟨by decide+kernel,.inl (by decide+kernel)⟩
   ·exact⟨by decide+kernel,.inl (by decide+kernel)⟩
   ·exact⟨by decide+kernel,.inl (by decide+kernel)⟩
   ·exact⟨by decide+kernel,.inr (by decide+kernel)⟩
  ·split at h
   ·cases h;have:=key (ngL l) _ (qek (qjk (qlY l) (qlX l)));exact⟨this.1,.inl this.2⟩
   ·cases h
theorem qnc {l:List UInt8} {n:Int} (h:qjf l=some n): -9223372036854775808≤n∧n≤9223372036854775807:=by
 unfold qjf at h
 cases ha:qeJ l with
 |none=>rw[ha] at h;cases h
 |some m=>
  rw[ha] at h;simp only at h
  split at h
  ·cases h;unfold qeJ at ha
   split at ha
   ·rename_i v hv;cases ha;exact qhN l _ hv
   ·cases ha
  ·cases h
theorem qja {l:List UInt8} {s:Smp} (h:qaq l=(0,s)):qaT s=true∧s.bits<18446744073709551616∧ -9223372036854775808≤s.t∧s.t≤9223372036854775807:=by
 have hE: ∀n more bits st t,qak 58 n=true→(st=true∨t=0)→(bits<18446744073709551616∧(Go.Proofs.YtdeimnnpcfncpaaGreatDoor.kindN bits≠4∨bits=9221120237041090561))→(-9223372036854775808≤t∧t≤9223372036854775807)→qdS ((qah,n)::more) bits st t=(0,s)→qaT s=true∧s.bits<18446744073709551616∧ -9223372036854775808≤s.t∧s.t≤9223372036854775807:=by
  intro n more bits st t hn hst hb ht h;unfold qdS at h
  split at h
  ·rename_i g
   have e:(⟨(ofF ((qah,n)::more)).2,bits,st,t⟩:Smp)=s:=congrArg Prod.snd h;subst e;obtain⟨o1,o2⟩:=qgF (all:=(qah,n)::more) (ls:=(ofF ((qah,n)::more)).2) (by rw[←g])
   have hmem:=(o2 (qah,n)).2 ⟨List.mem_cons_self ..,by
    obtain⟨c1,_,_⟩:=qaR hn;unfold emp
    cases n with
    |nil=>exact absurd rfl c1
    |cons _ _=>rfl⟩
   have hget:qaF (ofF ((qah,n)::more)).2 qah=n:=qks ((qaH _).1 o1).2.2 hmem;exact⟨qdu o1 (by show qak 58 (qaF (ofF ((qah,n)::more)).2 qah)=true;rw[hget];exact hn) hb.2 hst,hb.1,ht.1,ht.2⟩
  ·rename_i g;exact absurd (congrArg Prod.fst h) g
 have hT: ∀n more bits d,qak 58 n=true→(bits<18446744073709551616∧(Go.Proofs.YtdeimnnpcfncpaaGreatDoor.kindN bits≠4∨bits=9221120237041090561))→qdk ((qah,n)::more) bits d=(0,s)→qaT s=true∧s.bits<18446744073709551616∧ -9223372036854775808≤s.t∧s.t≤9223372036854775807:=by
  intro n more bits d hn hb h;unfold qdk at h
  split at h
  ·exact hE n more bits false 0 hn (.inr rfl) hb ⟨by decide,by decide⟩ h
  ·split at h
   ·cases h
   ·rename_i m hm
    split at h
    ·exact hE n more bits true m hn (.inl rfl) hb (qnc hm) h
    ·cases h
 have hV: ∀n more c,qak 58 n=true→qb2 ((qah,n)::more) c=(0,s)→qaT s=true∧s.bits<18446744073709551616∧ -9223372036854775808≤s.t∧s.t≤9223372036854775807:=by
  intro n more c hn h;unfold qb2 at h
  cases hp:qdP (wd c)with
  |none=>rw[hp] at h;cases h
  |some b=>rw[hp] at h;exact hT n more b _ hn (qpD hp) h
 unfold qaq at h
 split at h
 ·cases h
 ·split at h
  ·rename_i hn
   split at h
   ·split at h
    ·exact hV _ _ _ hn h
    ·rename_i g;exact absurd (congrArg Prod.fst h) g
   ·exact hV _ _ _ hn h
  ·cases h
theorem qqV {l v r:List UInt8} (h:quo l=some (v,r)):v.length≤l.length∧r.length≤l.length:=by
 refine⟨?_,qf3 h⟩;unfold quo at h
 split at h
 ·rename_i g
  simp only[Option.some.injEq,Prod.mk.injEq] at h;rw[←h.1];have g1:=g.1;unfold quA at g1⊢
  split at g1
  ·rename_i g2
   rw[if_pos g2];exact(qof l g1 (by intro e;rw[e] at g2;simp at g2)).2
  ·cases g1
 ·cases h
theorem qdU (M:Nat): ∀L:List (List UInt8),(∀a∈L,a.length≤M)→(qbj L).length≤L.length*(M+1)
 | [],_=>Nat.zero_le _
 | [a],h=>by
   have:=h a (List.mem_cons_self ..);show a.length≤_;simp;omega
 |a::b::t,h=>by
  have h1:=h a (List.mem_cons_self ..);have ih:=qdU M (b::t) (fun x hx=>h x (List.mem_cons_of_mem _ hx));show(a++(44::qbj (b::t))).length≤_;rw[List.length_append,List.length_cons];rw[List.length_cons,Nat.succ_mul];omega
theorem qke (s:Smp) (hb:s.bits<18446744073709551616) (h0: -9223372036854775808≤s.t) (h1:s.t≤9223372036854775807) (hr:qaT s=true) (K:Nat) (hK: ∀x∈s.ls,x.2.length≤K):(qaC s).length≤1400+s.ls.length*(132+2*K):=by
 obtain⟨r1,r2,r3,r4⟩:=qaJ hr;obtain⟨q1,q2,q3⟩:=(qaH _).1 r1;obtain⟨n1,n2,n3⟩:=qaR r2;obtain⟨_,e4⟩:=qcU s.bits hb;have hi:=L.itoa_len s.t h0 h1
 have hj:=qdU (131+2*K) ((s.ls.filter (fun x=>!(x.1==qah))).map lbT) (fun a ha=>by
  obtain⟨x,hx,rfl⟩:=List.mem_map.1 ha;have hx1:=(List.mem_filter.1 hx).1;have:=hK x hx1;have h2:=(qaR (qd9 (q2 x hx1).1).1).2.2;have h3:=L.quL_len x.2;unfold lbT;simp only[List.length_append,List.length_cons,List.length_nil]
  omega)
 rw[List.length_map] at hj;have hfl:(s.ls.filter (fun x=>!(x.1==qah))).length≤s.ls.length:=List.length_filter_le _ _;have hm:(s.ls.filter (fun x=>!(x.1==qah))).length*(131+2*K+1)≤s.ls.length*(132+2*K):=Nat.mul_le_mul hfl (by omega);unfold qaC;dsimp only;rw[List.length_append,List.length_append,List.length_cons,List.length_append]
 have a1:(if s.ls.filter (fun x=>!(x.1==qah))=[] then ([]:List UInt8) else 123::(qbj ((s.ls.filter (fun x=>!(x.1==qah))).map lbT)++[125])).length≤2+s.ls.length*(132+2*K):=by
  split
  ·simp
  ·rw[List.length_cons,List.length_append];simp;omega
 have a2:(if s.st=true then 32::Lib.itoa s.t else ([]:List UInt8)).length≤22:=by
  split
  ·rw[List.length_cons];omega
  ·simp
 omega
end Go.Proofs.YtdeimnnpcfncpaaGreatDoor.X
