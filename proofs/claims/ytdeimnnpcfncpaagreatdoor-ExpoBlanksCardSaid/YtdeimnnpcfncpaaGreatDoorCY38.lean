/- Parts of the proof: V0 V2 V3 V6. -/
import Derived.Lib.LastIndexByte
import Derived.Test.YtdeimnnpcfncpaaGreatDoorCY36
import Derived.Test.YtdeimnnpcfncpaaGreatDoorCY37
set_option linter.unusedVariables false
set_option linter.unusedSimpArgs false
set_option maxRecDepth 100000
set_option maxHeartbeats 64000000
namespace Go.Proofs.YtdeimnnpcfncpaaGreatDoor.X
open Go Go.RowKit
structure SOk (s:Smp):Prop where
 r:qa5 s=true
 b:s.bits<18446744073709551616
 t0: -9223372036854775808≤s.t
 t1:s.t≤9223372036854775807
 l:(qbT s).length≤5000
theorem SOk.line {s:Smp} (h:SOk s):qhg s=(0,qbT s):=by
 unfold qhg;have:=h.l;rw[if_pos h.r,if_neg (by omega)]
def Blk (b:List UInt8):Prop:= ∀c∈b,nb c=false
theorem qbv (b r:List UInt8) (h:Blk b):tb (b++r)=tb r:=by
 induction b with
 |nil=>rfl
 |cons c t ih=>
  rw[List.cons_append,qh1 c _ (h c (List.mem_cons_self ..))];exact ih (fun x hx=>h x (List.mem_cons_of_mem _ hx))
theorem qfn {b r:List UInt8} {P:UInt8→Prop} (h:Blk b) (h1: ∀c,nb c=false→P c) (h2: ∀c,r.head?=some c→P c): ∀c,(b++r).head?=some c→P c:=by
 intro c hc
 cases b with
 |nil=>exact h2 c hc
 |cons x t=>
  have:x=c:=by simpa using hc
  subst this;exact h1 x (h x (List.mem_cons_self ..))
theorem qhi (o:UInt8) (ho:nb o=true) (c:UInt8) (h:nb c=false):nch o c=false:=by
 cases hc:nch o c with
 |false=>rfl
 |true=>rw[qhW ho hc] at h;cases h
def blT (w3 w4 w5:List UInt8) (x:Lb):List UInt8:=x.1++(w3++(61::(w4++(34::(L.quL x.2++(34::w5))))))
def blL (w3 w4 w5 w6:List UInt8) (c:Bool):List Lb→List UInt8
 | []=>[]
 | [x]=>blT w3 w4 w5 x++(if c then 44::w6 else [])
 |x::y::t=>blT w3 w4 w5 x++(44::(w6++blL w3 w4 w5 w6 c (y::t)))
theorem qgJ (w3 w4 w5:List UInt8) (x:Lb) (r:List UInt8):blT w3 w4 w5 x++r=x.1++(w3++(61::(w4++(34::(L.quL x.2++(34::(w5++r))))))):=by
 unfold blT;simp
theorem qfj (w3 w4 w5:List UInt8) (b3:Blk w3) (b4:Blk w4) (b5:Blk w5) (f:Nat) (x:Lb) (r:List UInt8) (out:List Lb) (h1:qan 95 x.1=true) (h2:qbi x.2=true) (hs:(x.1==qag)=false) (ho:qb2 out x.1=false) (hr: ∃c t,r=c::t∧nb c=true):
 qgc (f+1) (blT w3 w4 w5 x++r) out=if (r.head?==some 44)=true then qgc f (tb r.tail) (out++[x]) else if (r.head?==some 125)=true then qgc f r (out++[x]) else (231,[],[]):=by
 obtain⟨c1,c2,c3⟩:=qa2 h1
 obtain⟨a1,a2⟩:=qjy 95 x.1 (w3++(61::(w4++(34::(L.quL x.2++(34::(w5++r))))))) c2
  (qfn (P:=fun c=>nch 95 c=false) b3 (qhi 95 (by decide)) (fun c hc=>by cases hc;exact qrn))
 obtain⟨c,t,rfl,hc⟩:=hr;rw[qgJ];rw[qgc]
 have hh:((x.1++(w3++(61::(w4++(34::(L.quL x.2++(34::(w5++(c::t))))))))).head?==some 125)=false:=by
  cases hx:x.1 with
  |nil=>exact absurd hx c1
  |cons y s=>
   have:=c2 y (by rw[hx];exact List.mem_cons_self ..);simp only[List.cons_append,List.head?_cons];rw[beq_eq_false_iff_ne];intro e;cases e;exact absurd this (by decide)
 rw[if_neg (by rw[hh];decide),a1,a2,h1];rw[qbv w3 _ b3,qbF 61 _ (by decide)];rw[if_pos (by rfl)];rw[List.tail_cons,qbv w4 _ b4,qbF 34 _ (by decide),qnh x.2 (w5++c::t) h2];simp only[hs,ho,Bool.or_self,Bool.false_eq_true,if_false];rw[qbv w5 _ b5,qbF c t hc]
theorem qeV (w3 w4 w5 w6:List UInt8) (cm:Bool) (o:List Lb) (r:List UInt8) (h: ∀x∈o,qan 95 x.1=true) (hr: ∃c t,r=c::t∧nb c=true): ∃c t,blL w3 w4 w5 w6 cm o++r=c::t∧nb c=true:=by
 cases o with
 |nil=>exact hr
 |cons x o=>
  obtain⟨c,t,e,hc⟩:=qiz (h x (List.mem_cons_self ..))
  cases o with
  |nil=>
   have e':blL w3 w4 w5 w6 cm [x]++r=c::(t++(w3++(61::(w4++(34::(L.quL x.2++(34::(w5++((if cm then 44::w6 else [])++r))))))))):=by rw[blL,List.append_assoc,qgJ,e];rfl
   exact⟨c,_,e',hc⟩
  |cons y s=>
   have e':blL w3 w4 w5 w6 cm (x::y::s)++r=c::(t++(w3++(61::(w4++(34::(L.quL x.2++(34::(w5++((44::(w6++blL w3 w4 w5 w6 cm (y::s)))++r))))))))):=by rw[blL,List.append_assoc,qgJ,e];rfl
   exact⟨c,_,e',hc⟩
theorem qeh (a:List Lb) (x:Lb) (t:List Lb) (h:qb2 a x.1=true):qaC (a++x::t)=true:=by
 induction a with
 |nil=>cases h
 |cons y a ih=>
  have h':(y.1==x.1||qb2 a x.1)=true:=h;rw[List.cons_append,qaC];rw[Bool.or_eq_true] at h'⊢;rcases h' with h'|h'
  ·left;rw[qcA];exact⟨x,by simp,((beq_iff_eq).1 h').symm⟩
  ·exact .inr (ih h')
theorem qgF (w3 w4 w5 w6:List UInt8) (cm:Bool) (b3:Blk w3) (b4:Blk w4) (b5:Blk w5) (b6:Blk w6): ∀(o:List Lb) (f:Nat) (r:List UInt8) (out:List Lb),o.length<f→qnN o→(∀x∈o,(x.1==qag)=false)→qaC (out++o)=false→
 qgc f (blL w3 w4 w5 w6 cm o++125::r) out=(0,out++o,r)
 | [],f,r,out,hf,_,_,_=>by
   obtain⟨g,rfl⟩: ∃g,f=g+1:=⟨f - 1,by simp at hf;omega⟩;rw[show blL w3 w4 w5 w6 cm []++125::r=125::r from rfl,qgc,if_pos (by rfl)];simp
 | [x],f,r,out,hf,hk,hn,ht=>by
   obtain⟨g,rfl⟩: ∃g,f=g+2:=⟨f - 2,by simp at hf;omega⟩;obtain⟨k1,k2⟩:=hk x (List.mem_cons_self ..)
   have ho:qb2 out x.1=false:=by
    rw[←Bool.not_eq_true];intro h;rw[qeh out x [] h] at ht;cases ht
   have hfin:qgc (g+1) (125::r) (out++[x])=(0,out++[x],r):=by rw[qgc,if_pos (by rfl)];rfl
   cases cm with
   |true=>
    rw[show blL w3 w4 w5 w6 true [x]++125::r=blT w3 w4 w5 x++(44::(w6++125::r)) by simp[blL]];rw[qfj w3 w4 w5 b3 b4 b5 (g+1) x _ out k1 k2 (hn x (List.mem_cons_self ..)) ho ⟨_,_,rfl,by decide⟩];rw[if_pos (by rfl),List.tail_cons,qbv w6 _ b6,qbF 125 _ (by decide)];exact hfin
   |false=>
    rw[show blL w3 w4 w5 w6 false [x]++125::r=blT w3 w4 w5 x++(125::r) by simp[blL]];rw[qfj w3 w4 w5 b3 b4 b5 (g+1) x _ out k1 k2 (hn x (List.mem_cons_self ..)) ho ⟨_,_,rfl,by decide⟩];rw[if_neg (by simp),if_pos (by rfl)];exact hfin
 |x::y::t,f,r,out,hf,hk,hn,ht=>by
  obtain⟨g,rfl⟩: ∃g,f=g+1:=⟨f - 1,by simp at hf;omega⟩;obtain⟨k1,k2⟩:=hk x (List.mem_cons_self ..)
  have ho:qb2 out x.1=false:=by
   rw[←Bool.not_eq_true];intro h;rw[qeh out x (y::t) h] at ht;cases ht
  have hk':qnN (y::t):=fun z hz=>hk z (List.mem_cons_of_mem _ hz)
  obtain⟨c,u,he,hc⟩:=qeV w3 w4 w5 w6 cm (y::t) (125::r) (fun z hz=>(hk' z hz).1) ⟨_,_,rfl,by decide⟩;rw[show blL w3 w4 w5 w6 cm (x::y::t)++125::r=blT w3 w4 w5 x++(44::(w6++(blL w3 w4 w5 w6 cm (y::t)++125::r))) by simp[blL]];rw[qfj w3 w4 w5 b3 b4 b5 g x _ out k1 k2 (hn x (List.mem_cons_self ..)) ho ⟨_,_,rfl,by decide⟩];rw[if_pos (by rfl),List.tail_cons,qbv w6 _ b6];have hb:tb (blL w3 w4 w5 w6 cm (y::t)++125::r)=blL w3 w4 w5 w6 cm (y::t)++125::r:=by rw[he];exact qbF c u hc
  rw[hb,qgF w3 w4 w5 w6 cm b3 b4 b5 b6 (y::t) g r (out++[x]) (by simp at hf⊢;omega) hk' (fun z hz=>hn z (List.mem_cons_of_mem _ hz)) (by simpa using ht)];simp
def blS (w:Nat→List UInt8) (cm:Bool) (o:List Lb) (s:Smp):List UInt8:=
 w 0++(qaI s.ls qag++(w 1++(123::(w 2++(blL (w 3) (w 4) (w 5) (w 6) cm o++(125::(w 7++(qak s.bits++((if s.st then 32::(w 1++Lib.itoa s.t) else [])++w 2)))))))))
theorem qlP (all:List Lb) (s:Smp) (hb:s.bits<18446744073709551616) (h0: -9223372036854775808≤s.t) (h1:s.t≤9223372036854775807) (hk:Go.Proofs.YtdeimnnpcfncpaaGreatDoor.kindN s.bits≠4∨s.bits=9221120237041090561) (hst:s.st=true∨s.t=0) (w1 w2:List UInt8) (b1:Blk w1) (b2:Blk w2):
 qcL all (qak s.bits++((if s.st then 32::(w1++Lib.itoa s.t) else [])++w2))=qfr all s.bits s.st s.t:=by
 obtain⟨⟨e1,e2,e3⟩,e4⟩:=qcB s.bits hb;have h2:tb w2=[]:=by have:=qbv w2 [] b2;rw[List.append_nil] at this;exact this
 obtain⟨v1,v2⟩:=qkg (qak s.bits) ((if s.st then 32::(w1++Lib.itoa s.t) else [])++w2) e2 (fun c hc=>by
  cases hs:s.st with
  |true=>rw[hs] at hc;cases hc;decide
  |false=>
   rw[hs] at hc
   cases w2 with
   |nil=>cases hc
   |cons x t=>have:x=c:=by simpa using hc
              subst this;exact b2 x (List.mem_cons_self ..))
 have hp:=qew s.bits hb (by
  rcases hk with hk|hk
  ·left
   cases hn:qdU s.bits with
   |false=>rfl
   |true=>exact absurd ((qp4 s.bits hb).2 hn) hk
  ·exact .inr hk)
 unfold qcL;rw[v1,v2,hp];show qdC all s.bits _=_
 cases hs:s.st with
 |false=>
  rcases hst with g|g
  ·rw[hs] at g;cases g
  ·unfold qdC;rw[show tb ((if false=true then 32::(w1++Lib.itoa s.t) else [])++w2)=[] from h2,if_pos rfl,g]
 |true=>
  obtain⟨i1,i2⟩:=qkZ s.t h0 h1
  have ht:tb ((if true=true then 32::(w1++Lib.itoa s.t) else [])++w2)=Lib.itoa s.t++w2:=by
   rw[if_pos rfl,List.cons_append,qh1 32 _ (by decide),List.append_assoc,qbv w1 _ b1];exact qgs _ _ i1 i2
  obtain⟨u1,u2⟩:=qkg (Lib.itoa s.t) w2 i2 (fun c hc=>by
   cases w2 with
   |nil=>cases hc
   |cons x t=>have:x=c:=by simpa using hc
              subst this;exact b2 x (List.mem_cons_self ..))
  unfold qdC;rw[ht,if_neg (by intro e;exact i1 (List.append_eq_nil_iff.1 e).1),u1,u2,qkn s.t h0 h1];show(if tb w2=[] then _ else _)=_;rw[if_pos h2]
theorem qgS (w3 w4 w5 w6:List UInt8) (cm:Bool): ∀o:List Lb,o.length≤(blL w3 w4 w5 w6 cm o).length
 | []=>Nat.le_refl _
 | [x]=>by unfold blL blT;simp only[List.length_append,List.length_cons,List.length_nil];omega
 |x::y::t=>by
  have:=qgS w3 w4 w5 w6 cm (y::t);rw[blL];simp only[List.length_append,List.length_cons] at this⊢;omega
theorem qhd (w:Nat→List UInt8) (hw: ∀i,Blk (w i)) (cm:Bool) (s:Smp) (o:List Lb) (hb:s.bits<18446744073709551616) (h0: -9223372036854775808≤s.t) (h1:s.t≤9223372036854775807) (hr:qa5 s=true)
 (ho:o.Perm (s.ls.filter (fun x=>!(x.1==qag)))) (hl:(blS w cm o s).length≤65536):qay (blS w cm o s)=(0,s):=by
 obtain⟨r1,r2,r3,r4⟩:=qaZ hr;obtain⟨q1,q2,q3⟩:=(qaP _).1 r1;obtain⟨n1,n2,n3⟩:=qa2 r2;have hm:=get_mem n1;have hp:((qag,qaI s.ls qag)::o).Perm s.ls:=(List.Perm.cons _ ho).trans (qli q3 hm);have hof:=qlF r1 hp;obtain⟨⟨e1,e2,e3⟩,e4⟩:=qcB s.bits hb;have hnb: ∀c∈qaI s.ls qag,nb c=true:=fun c hc=>qhW (by decide) (n2 c hc)
 have hv:=fun all=>qlP all s hb h0 h1 r3 r4 (w 1) (w 2) (hw 1) (hw 2)
 have hE:qfr ((qag,qaI s.ls qag)::o) s.bits s.st s.t=(0,s):=by
  unfold qfr;rw[hof];simp
 have hmo: ∀x∈o,x∈s.ls∧(x.1==qag)=false:=fun x hx=>by
  have:=List.mem_filter.1 (ho.mem_iff.1 hx);exact⟨this.1,by simpa using this.2⟩
 have ht2:qaC o=false:=by rw[qbq ho];exact qcz _ (q3.filter _)
 unfold blS at hl⊢;generalize hR:qak s.bits++((if s.st then 32::(w 1++Lib.itoa s.t) else [])++w 2)=R at hl hv⊢;have hxR:tb R=R:=by rw[←hR];exact qgs _ _ e1 e2
 obtain⟨c,u,he,hc⟩:=qeV (w 3) (w 4) (w 5) (w 6) cm o (125::(w 7++R)) (fun z hz=>(qdj (q2 z (hmo z hz).1).1).1) ⟨_,_,rfl,by decide⟩;have hb2:tb (blL (w 3) (w 4) (w 5) (w 6) cm o++125::(w 7++R))=blL (w 3) (w 4) (w 5) (w 6) cm o++125::(w 7++R):=by rw[he];exact qbF c u hc
 have hg:qcj (w 2++(blL (w 3) (w 4) (w 5) (w 6) cm o++125::(w 7++R)))=(0,o,w 7++R):=by
  unfold qcj;rw[qbv (w 2) _ (hw 2),hb2];have hlen:o.length≤(blL (w 3) (w 4) (w 5) (w 6) cm o).length:=qgS (w 3) (w 4) (w 5) (w 6) cm o
  have:=qgF (w 3) (w 4) (w 5) (w 6) cm (hw 3) (hw 4) (hw 5) (hw 6) o ((w 2++(blL (w 3) (w 4) (w 5) (w 6) cm o++125::(w 7++R))).length+1) (w 7++R) [] (by simp only[List.length_append];omega)
   (fun z hz=>qdj (q2 z (hmo z hz).1).1) (fun z hz=>(hmo z hz).2) ht2
  rw[this];rfl
 generalize hT:w 2++(blL (w 3) (w 4) (w 5) (w 6) cm o++125::(w 7++R))=T at hl hg⊢
 have t1:tb (w 0++(qaI s.ls qag++(w 1++123::T)))=qaI s.ls qag++(w 1++123::T):=by
  rw[qbv (w 0) _ (hw 0)];exact qgs _ _ n1 hnb
 obtain⟨m1,m2⟩:=qjy 58 (qaI s.ls qag) (w 1++123::T) n2 (qfn (P:=fun c=>nch 58 c=false) (hw 1) (qhi 58 (by decide)) (fun c hc=>by cases hc;decide));unfold qay;rw[if_neg (by omega),t1,m1,m2,if_pos r2,qbv (w 1) _ (hw 1),qbF 123 _ (by decide),if_pos (by rfl),List.tail_cons,hg,if_pos rfl];show qcL _ (tb (w 7++R))=_;rw[qbv (w 7) _ (hw 7),hxR,hv];exact hE
def qcw (o:List Lb) (k:Nat):List Lb:=(List.range o.length).map (fun i=>o.getD ((i+k)%o.length) lb0)
theorem qoB (o:List Lb) (k:Nat):qcw o k=o.drop (k%o.length)++o.take (k%o.length):=by
 rcases Nat.eq_zero_or_pos o.length with h0|h0
 ·have:o=[]:=List.length_eq_zero_iff.1 h0;subst this;simp[qcw]
 ·have hm:=Nat.mod_lt k h0;generalize hq:k%o.length=m at hm;apply List.ext_getElem
  ·simp[qcw];omega
  ·intro i h1 h2;have hi:i<o.length:=by simpa [qcw] using h1
   have e:(i+k)%o.length=if i+m<o.length then i+m else i+m - o.length:=by
    rw[Nat.add_mod,Nat.mod_eq_of_lt hi,hq]
    split
    ·rename_i h;exact Nat.mod_eq_of_lt h
    ·rw[Nat.mod_eq_sub_mod (by omega),Nat.mod_eq_of_lt (by omega)]
   have e2:(qcw o k)[i]=o.getD ((i+k)%o.length) lb0:=by simp[qcw]
   rw[e2,e]
   by_cases h:i+m<o.length
   ·rw[if_pos h,List.getElem_append_left (by rw[List.length_drop];omega),List.getElem_drop,List.getD_eq_getElem?_getD,List.getElem?_eq_getElem h];simp[Nat.add_comm]
   ·rw[if_neg h,List.getElem_append_right (by rw[List.length_drop];omega),List.getElem_take,List.getD_eq_getElem?_getD,List.getElem?_eq_getElem (by omega)];simp only[List.length_drop,Option.getD_some]
    congr 1
    omega
theorem qkm (o:List Lb) (k:Nat):(qcw o k).Perm o:=by
 rw[qoB];exact(List.perm_append_comm).trans (by rw[List.take_append_drop])
abbrev Tf:=List UInt8→Option (List UInt8)
def tf0:Tf:=fun _=>none
def qhI (f:Tf) (x:Lb):Tf:=fun n=>if n=x.1 then (if emp x=true then none else some x.2) else f n
def qcl (f:Tf) (ls:List Lb):Tf:=ls.foldl qhI f
def qsv (ls eds r:List Lb):Prop:=Inc r∧(∀x:Lb,x∈r↔qcl (qcl tf0 ls) eds x.1=some x.2)∧r.length≤ls.length+eds.length
theorem qdF (n:List UInt8): ∀(ls:List Lb) (f:Tf),(∀x∈ls,x.1≠n)→qcl f ls n=f n
 | [],_,_=>rfl
 |x::t,f,h=>by
  show qcl (qhI f x) t n=_;rw[qdF n t _ (fun y hy=>h y (List.mem_cons_of_mem _ hy))];unfold qhI;rw[if_neg (fun e=>h x (List.mem_cons_self ..) e.symm)]
theorem qfO (ls:List Lb) (hi:Inc ls) (he: ∀x∈ls,emp x=false): ∀(f:Tf) (x:Lb),x∈ls→qcl f ls x.1=some x.2:=by
 induction ls with
 |nil=>intro f x hx;cases hx
 |cons y t ih=>
  intro f x hx;obtain⟨h1,h2⟩:=List.pairwise_cons.1 hi;show qcl (qhI f y) t x.1=_;rcases List.mem_cons.1 hx with rfl|hx
  ·rw[qdF x.1 t _ (fun z hz e=>by have:=h1 z hz;rw[e] at this;exact qbV _ this)];unfold qhI;rw[if_pos rfl,if_neg (by rw[he x (List.mem_cons_self ..)];decide)]
  ·exact ih h2 (fun z hz=>he z (List.mem_cons_of_mem _ hz)) _ x hx
theorem qk5 (ls:List Lb) (hi:Inc ls) (he: ∀x∈ls,emp x=false) (x:Lb):qcl tf0 ls x.1=some x.2↔x∈ls:=by
 constructor
 ·intro h
  by_cases hx: ∃y∈ls,y.1=x.1
  ·obtain⟨y,hy,e⟩:=hx;have:=qfO ls hi he tf0 y hy;rw[e,h] at this;have e2:x=y:=Prod.ext e.symm (Option.some.inj this);rw[e2];exact hy
  ·rw[qdF x.1 ls tf0 (fun y hy e=>hx ⟨y,hy,e⟩)] at h;cases h
 ·exact qfO ls hi he tf0 x
theorem qky {ls r:List Lb} {n v:List UInt8} (hr:qaF ls=true) (hv:v≠[]) (h:qsv ls [(n,v)] r):Inc r∧(∀x,x∈r↔x=(n,v)∨(x∈ls∧x.1≠n))∧r.length≤ls.length+1:=by
 obtain⟨q1,q2,q3⟩:=(qaP _).1 hr;obtain⟨h1,h2,h3⟩:=h;refine⟨h1,fun x=>?_,h3⟩;rw[h2 x];show qhI (qcl tf0 ls) (n,v) x.1=some x.2↔_;unfold qhI
 have hem:emp (n,v)=false:=by unfold emp;cases v with
  |nil=>exact absurd rfl hv
  |cons c t=>rfl
 by_cases hx:x.1=n
 ·rw[if_pos hx,if_neg (by rw[hem];decide)];constructor
  ·intro e;exact .inl (Prod.ext hx (Option.some.inj e).symm)
  ·rintro(e|⟨_,e⟩)
   ·rw[e]
   ·exact absurd hx e
 ·rw[if_neg hx,qk5 ls q3 (fun y hy=>(q2 y hy).2)];constructor
  ·exact fun e=> .inr ⟨e,hx⟩
  ·rintro(e|⟨e,_⟩)
   ·rw[e] at hx;exact absurd rfl hx
   ·exact e
theorem set_right {ls r:List Lb} {n v:List UInt8} (hr:qaF ls=true) (hl:ls.length≤60) (hv:v≠[]) (h1:qan 95 n=true) (h2:qbi v=true) (h:qsv ls [(n,v)] r):qaF r=true∧qaI r n=v:=by
 obtain⟨q1,q2,q3⟩:=(qaP _).1 hr;obtain⟨s1,s2,s3⟩:=qky hr hv h;refine⟨(qaP _).2 ⟨by omega,fun x hx=>?_,s1⟩,?_⟩
 ·rcases(s2 x).1 hx with rfl|⟨hx,_⟩
  ·exact⟨ok_one h1 h2,by unfold emp;cases v with
    |nil=>exact absurd rfl hv
    |cons c t=>rfl⟩
  ·exact q2 x hx
 ·exact qoN s1 ((s2 (n,v)).2 (.inl rfl))
structure MdS (s:Smp):Prop where
 ok:SOk s
 n:s.ls.length≤41
 v: ∀x∈s.ls,x.1.length≤128∧x.2.length≤10
theorem qmj {ls r:List Lb} {v:List UInt8} {bits:Nat} {st:Bool} {t:Int} (hr:qaF ls=true) (hl:ls.length≤16) (hk: ∀x∈ls,x.2.length≤10) (hv:qan 58 v=true) (hv2:qbi v=true) (hv3:v.length≤10) (h:qsv ls [(qag,v)] r)
 (hb:bits<18446744073709551616) (hn:Go.Proofs.YtdeimnnpcfncpaaGreatDoor.kindN bits≠4) (hst:st=true∨t=0) (h0: -9223372036854775808≤t) (h1:t≤9223372036854775807):MdS ⟨r,bits,st,t⟩:=by
 have hv0:=(qa2 hv).1;obtain⟨r1,r2⟩:=set_right hr (by omega) hv0 (by decide) hv2 h;obtain⟨s1,s2,s3⟩:=qky hr hv0 h;have hR:qa5 ⟨r,bits,st,t⟩=true:=qgt r1 (by show qan 58 (qaI r qag)=true;rw[r2];exact hv) (.inl hn) hst
 have hK: ∀x∈r,x.2.length≤10:=fun x hx=>by
  rcases(s2 x).1 hx with rfl|⟨hx,_⟩
  ·exact hv3
  ·exact hk x hx
 have hL:=qjk ⟨r,bits,st,t⟩ hb h0 h1 hR 10 hK;obtain⟨q1,q2,q3⟩:=(qaP _).1 r1;refine⟨⟨hR,hb,h0,h1,?_⟩,?_,fun x hx=>⟨?_,hK x hx⟩⟩
 ·have e:(⟨r,bits,st,t⟩:Smp).ls.length≤17:=by show r.length≤17;omega
  have:(⟨r,bits,st,t⟩:Smp).ls.length*(132+2*10)≤17*152:=Nat.mul_le_mul e (Nat.le_refl _);omega
 ·show r.length≤41;omega
 ·exact(qa2 (qdj (q2 x hx).1).1).2.2
theorem qmc (w:Nat→List UInt8) (hw: ∀i,Blk (w i)) (cm:Bool) (s:Smp) (o:List Lb) (hb:s.bits<18446744073709551616) (hr:qa5 s=true)
 (ho:o.Perm (s.ls.filter (fun x=>!(x.1==qag)))):qdH (blS w cm o s)=qak s.bits:=by
 obtain⟨r1,r2,r3,r4⟩:=qaZ hr;obtain⟨q1,q2,q3⟩:=(qaP _).1 r1;obtain⟨n1,n2,n3⟩:=qa2 r2;obtain⟨⟨e1,e2,e3⟩,e4⟩:=qcB s.bits hb;have hnb: ∀c∈qaI s.ls qag,nb c=true:=fun c hc=>qhW (by decide) (n2 c hc)
 have hmo: ∀x∈o,x∈s.ls∧(x.1==qag)=false:=fun x hx=>by
  have:=List.mem_filter.1 (ho.mem_iff.1 hx);exact⟨this.1,by simpa using this.2⟩
 have ht2:qaC o=false:=by rw[qbq ho];exact qcz _ (q3.filter _)
 have hwd:wd (qak s.bits++((if s.st then 32::(w 1++Lib.itoa s.t) else [])++w 2))=qak s.bits:=by
  refine(qkg _ _ e2 fun c hc=>?_).1
  cases hs:s.st with
  |true=>rw[hs] at hc;cases hc;decide
  |false=>
   rw[hs] at hc
   cases hx:w 2 with
   |nil=>rw[hx] at hc;cases hc
   |cons x t=>
    rw[hx] at hc;have:x=c:=by simpa using hc
    subst this;exact hw 2 x (by rw[hx];exact List.mem_cons_self ..)
 unfold blS;generalize hR:qak s.bits++((if s.st then 32::(w 1++Lib.itoa s.t) else [])++w 2)=R at hwd⊢;have hxR:tb R=R:=by rw[←hR];exact qgs _ _ e1 e2
 obtain⟨c,u,he,hc⟩:=qeV (w 3) (w 4) (w 5) (w 6) cm o (125::(w 7++R)) (fun z hz=>(qdj (q2 z (hmo z hz).1).1).1) ⟨_,_,rfl,by decide⟩;have hb2:tb (blL (w 3) (w 4) (w 5) (w 6) cm o++125::(w 7++R))=blL (w 3) (w 4) (w 5) (w 6) cm o++125::(w 7++R):=by rw[he];exact qbF c u hc
 have hg:qcj (w 2++(blL (w 3) (w 4) (w 5) (w 6) cm o++125::(w 7++R)))=(0,o,w 7++R):=by
  unfold qcj;rw[qbv (w 2) _ (hw 2),hb2];have hlen:o.length≤(blL (w 3) (w 4) (w 5) (w 6) cm o).length:=qgS (w 3) (w 4) (w 5) (w 6) cm o
  have:=qgF (w 3) (w 4) (w 5) (w 6) cm (hw 3) (hw 4) (hw 5) (hw 6) o ((w 2++(blL (w 3) (w 4) (w 5) (w 6) cm o++125::(w 7++R))).length+1) (w 7++R) [] (by simp only[List.length_append];omega)
   (fun z hz=>qdj (q2 z (hmo z hz).1).1) (fun z hz=>(hmo z hz).2) ht2
  rw[this];rfl
 generalize hT:w 2++(blL (w 3) (w 4) (w 5) (w 6) cm o++125::(w 7++R))=T at hg⊢
 have t1:tb (w 0++(qaI s.ls qag++(w 1++123::T)))=qaI s.ls qag++(w 1++123::T):=by
  rw[qbv (w 0) _ (hw 0)];exact qgs _ _ n1 hnb
 obtain⟨m1,m2⟩:=qjy 58 (qaI s.ls qag) (w 1++123::T) n2 (qfn (P:=fun c=>nch 58 c=false) (hw 1) (qhi 58 (by decide)) (fun c hc=>by cases hc;decide));unfold qdH;rw[t1,m2,qbv (w 1) _ (hw 1),qbF 123 _ (by decide),if_pos (by rfl),List.tail_cons,hg];show wd (tb (w 7++R))=_;rw[qbv (w 7) _ (hw 7),hxR,hwd]
theorem qke (v:List UInt8):(((v.flatMap fun c=>if c=92 then [92,92] else [c]).flatMap fun c=>if c=10 then [92,110] else [c]).flatMap fun c=>if c=34 then [92,34] else [c])=L.quL v:=by
 unfold L.quL
 induction v with
 |nil=>rfl
 |cons c t ih=>
  simp only[List.flatMap_cons,List.flatMap_append] at ih⊢;rw[ih]
  congr 1
  unfold L.encq
  by_cases h1:c=92
  ·subst h1;rfl
  ·rw[if_neg h1,if_neg h1]
   by_cases h2:c=10
   ·subst h2;rfl
   ·rw[if_neg h2,List.flatMap_cons,List.flatMap_nil,if_neg h2]
    by_cases h3:c=34
    ·subst h3;rfl
    ·simp[h3]
theorem qfu (a x y:UInt8) (v:List UInt8):(v.flatMap fun c=>if c=a then [x,y] else [c]).length≤2*v.length:=by
 induction v with
 |nil=>simp
 |cons c t ih=>
  rw[List.flatMap_cons,List.length_append,List.length_cons]
  split
  ·simp only[List.length_cons,List.length_nil];omega
  ·simp only[List.length_cons,List.length_nil];omega
def qgY (w6:List UInt8) (cm:Bool) (n j:Nat):List UInt8:=if decide (j+1<n)||cm then 44::w6 else []
def blQ (w3 w4 w5 w6:List UInt8) (cm:Bool) (n:Nat) (f:Nat→Lb) (i:Nat):List UInt8:=(List.range i).flatMap (fun j=>blT w3 w4 w5 (f j)++qgY w6 cm n j)
theorem qh7 (w3 w4 w5 w6:List UInt8) (cm:Bool) (n:Nat) (f:Nat→Lb) (i:Nat):blQ w3 w4 w5 w6 cm n f (i+1)=blQ w3 w4 w5 w6 cm n f i++(blT w3 w4 w5 (f i)++qgY w6 cm n i):=by
 unfold blQ;rw[List.range_succ,List.flatMap_append];simp
theorem qkb (w3 w4 w5 w6:List UInt8) (cm:Bool): ∀(L:List Lb) (f:Nat→Lb),(∀j,j<L.length→f j=L.getD j lb0)→blQ w3 w4 w5 w6 cm L.length f L.length=blL w3 w4 w5 w6 cm L
 | [],f,h=>rfl
 | [x],f,h=>by
   have:=h 0 (by simp);unfold blQ;simp only[List.length_cons,List.length_nil,Nat.zero_add,List.range_one,List.flatMap_cons,List.flatMap_nil,List.append_nil];rw[this];show blT w3 w4 w5 x++qgY w6 cm 1 0=blT w3 w4 w5 x++(if cm then 44::w6 else []);unfold qgY;simp
 |x::y::t,f,h=>by
  have ih:=qkb w3 w4 w5 w6 cm (y::t) (fun j=>f (j+1)) (fun j hj=>by
   rw[h (j+1) (by simp at hj⊢;omega)];rfl)
  have h0:f 0=x:=h 0 (by simp);have e:blL w3 w4 w5 w6 cm (x::y::t)=blT w3 w4 w5 x++(44::(w6++blL w3 w4 w5 w6 cm (y::t))):=rfl;rw[e,←ih];unfold blQ;rw[show(x::y::t).length=(y::t).length+1 from rfl,List.range_succ_eq_map,List.flatMap_cons,h0];rw[List.flatMap_map];have hs:qgY w6 cm ((y::t).length+1) 0=44::w6:=by unfold qgY;simp
  rw[hs,List.append_assoc,List.cons_append];refine congrArg (fun g=>blT w3 w4 w5 x++(44::(w6++(List.range (y::t).length).flatMap g))) (funext fun j=>?_);have:qgY w6 cm ((y::t).length+1) (j+1)=qgY w6 cm (y::t).length j:=by unfold qgY;simp
  show blT w3 w4 w5 (f (j+1))++qgY w6 cm ((y::t).length+1) (j+1)=_;rw[this]
theorem qnf (w3 w4 w5 w6:List UInt8) (cm:Bool) (o:List Lb) (k:Nat):blQ w3 w4 w5 w6 cm o.length (fun j=>o.getD ((j+k)%o.length) lb0) o.length=blL w3 w4 w5 w6 cm (qcw o k):=by
 have hl:(qcw o k).length=o.length:=by simp[qcw]
 have:=qkb w3 w4 w5 w6 cm (qcw o k) (fun j=>o.getD ((j+k)%o.length) lb0) (fun j hj=>by
  rw[hl] at hj;rw[List.getD_eq_getElem?_getD]
  simp[qcw,hj])
 rw[hl] at this;exact this
theorem qjt (w3 w4 w5 w6:List UInt8) (cm:Bool) (n:Nat) (f:Nat→Lb) (h3:w3.length≤3) (h4:w4.length≤3) (h5:w5.length≤3) (h6:w6.length≤3) (hf: ∀j,(f j).1.length≤128∧(f j).2.length≤129): ∀i,(blQ w3 w4 w5 w6 cm n f i).length≤500*i
 |0=>by simp[blQ]
 |i+1=>by
  have:=qjt w3 w4 w5 w6 cm n f h3 h4 h5 h6 hf i;have h:=hf i
  have hq:(L.quL (f i).2).length≤2*(f i).2.length:=by
   unfold L.quL;generalize (f i).2=v
   induction v with
   |nil=>simp
   |cons c t ih=>
    rw[List.flatMap_cons,List.length_append,List.length_cons];have:(L.encq c).length≤2:=by unfold L.encq;repeat (first|split|simp)
    omega
  have hs:(qgY w6 cm n i).length≤4:=by unfold qgY;split<;>simp<;>omega
  rw[qh7];unfold blT;simp only[List.length_append,List.length_cons,List.length_nil];omega
theorem last_at (p t:List UInt8) (c:UInt8) (h: ∀x∈t,x≠c):Lib.lastIndexByte (BS (p++c::t)) (c.toNat:Int)=(p.length:Int):=by
 have hz:(BS (p++c::t)).size=p.length+(t.length+1):=by rw[qac];simp
 have hd: ∀j:Nat,((BS (p++c::t)).data[j]!:UInt8)=(p++c::t)[j]!:=fun j=>by show((p++c::t).toArray[j]!:UInt8)=_;rw[List.getElem!_toArray]
 unfold Lib.lastIndexByte;have hat:(p++c::t)[p.length]! =c:=by simp
 have hbe: ∀j,p.length<j→j<p.length+(t.length+1)→(p++c::t)[j]!≠c:=fun j h1 h2=>by
  rw[List.getElem!_eq_getElem?_getD,List.getElem?_append_right (by omega)];obtain⟨i,hi⟩: ∃i,j - p.length=i+1:=⟨j - p.length - 1,by omega⟩;rw[hi,List.getElem?_cons_succ,List.getElem?_eq_getElem (by omega)];exact h _ (List.getElem_mem _)
 rcases Lib.lastIdx_spec (BS (p++c::t)) (c.toNat:Int) (BS (p++c::t)).size with ⟨_,h2⟩|⟨i,h1,h2,h3,h4⟩
 ·exact absurd (by rw[hd,hat]) (h2 p.length (by omega))
 ·rw[h2];rcases Nat.lt_trichotomy i p.length with hl|hl|hl
  ·exact absurd (by rw[hd,hat]) (h4 p.length hl (by omega))
  ·rw[hl]
  ·refine absurd ?_ (hbe i hl (by omega));rw[hd] at h3;exact UInt8.toNat_inj.1 (by omega)
def qqF:List (List UInt8):=[[],[32],[9],[32,9,32],[32,32]]
theorem qcs {b:List UInt8} (h:b∈qqF):Blk b∧b.length≤3:=by
 unfold qqF at h;simp only[List.mem_cons,List.not_mem_nil,or_false] at h;rcases h with rfl|rfl|rfl|rfl|rfl
 all_goals exact⟨by intro c hc;revert c;decide,by decide⟩
theorem qkk (s:Smp) (hs:s.st=true) (h0: -9223372036854775808≤s.t) (h1:s.t≤9223372036854775807): ∃p,qbT s=p++32::Lib.itoa s.t∧ ∀x∈Lib.itoa s.t,x≠32:=by
 obtain⟨i1,i2⟩:=qkZ s.t h0 h1;refine⟨qaI s.ls qag++((if s.ls.filter (fun x=>!(x.1==qag))=[] then [] else 123::(qeo ((s.ls.filter (fun x=>!(x.1==qag))).map lbT)++[125]))++(32::qak s.bits)),?_,fun x hx e=>?_⟩
 ·unfold qbT;rw[hs];simp
 ·have:=i2 x hx;rw[e] at this;exact absurd this (by decide)
theorem qj3 (s:Smp) (hs:s.st=true) (h0: -9223372036854775808≤s.t) (h1:s.t≤9223372036854775807): ∃k:Nat,Lib.lastIndexByte (BS (qbT s)) 32=(k:Int)∧k+1≤(qbT s).length∧(qbT s).drop (k+1)=Lib.itoa s.t:=by
 obtain⟨p,e,h⟩:=qkk s hs h0 h1;refine⟨p.length,?_,?_,?_⟩
 ·rw[e];exact last_at p _ 32 h
 ·rw[e];simp
 ·rw[e,←List.drop_drop,List.drop_left];rfl
theorem qot (w:Nat→List UInt8) (hw: ∀i,(w i).length≤3) (cm:Bool) (s:Smp) (o:List Lb) (hT:(qbT s).length≤5000) (hB:(blL (w 3) (w 4) (w 5) (w 6) cm o).length≤25000):(blS w cm o s).length≤65536:=by
 have h0:=hw 0;have h1:=hw 1;have h2:=hw 2;have h7:=hw 7;unfold qbT at hT;unfold blS;simp only[List.length_append,List.length_cons] at hT⊢
 cases hs:s.st with
 |true=>
  rw[hs] at hT;simp only[if_true,List.length_append,List.length_cons] at hT⊢;omega
 |false=>
  rw[hs] at hT;simp only[Bool.false_eq_true,if_false,List.length_nil] at hT⊢;omega
end Go.Proofs.YtdeimnnpcfncpaaGreatDoor.X
