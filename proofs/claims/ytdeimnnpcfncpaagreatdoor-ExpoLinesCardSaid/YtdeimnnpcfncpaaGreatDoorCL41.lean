/- Parts of the proof: U0 V0 V3 V1 U1 UB. -/
import Derived.Lib.MapLaws
import Derived.Lib.QuoteLoop
import Derived.Lib.ReplaceLaws
import Derived.Shelf.Strings.LastIndex
import Derived.Shelf.Strings.LastIndexAll
import Derived.Shelf.Strings.MapAny
import Derived.Ground.PaProg
import Derived.Shelf.Path.Small
import Derived.Test.YtdeimnnpcfncpaaGreatDoorCL39
import Derived.Test.YtdeimnnpcfncpaaGreatDoorCL40
set_option linter.unusedVariables false
set_option linter.unusedSimpArgs false
set_option maxRecDepth 100000
set_option maxHeartbeats 64000000
namespace Go.Proofs.YtdeimnnpcfncpaaGreatDoor.X
open Go Go.RowKit
def qbp (ls:List (List UInt8)):List UInt8:=ls.flatMap (fun l=>l++[10])
theorem qeR: ∀ls:List (List UInt8),(∀l∈ls,∀c∈l,c≠10)→L.linesL (qbp ls)=ls
 | [],_=>L.linesL_nil
 |l::t,h=>by
  have ht:=qeR t (fun x hx=>h x (List.mem_cons_of_mem _ hx));have hl:=h l (List.mem_cons_self ..);have e:qbp (l::t)=l++(10::qbp t):=by simp[qbp]
  have hp: ∀a∈l,(a !=10)=true:=fun a ha=>by simpa using hl a ha
  rw[e,L.linesL_cons _ (by simp),List.takeWhile_append_of_pos hp,List.dropWhile_append_of_pos hp];simp[ht]
theorem qn6 (a:Nat) (ha:a<18446744073709551616): ∀c∈qai a,c≠10:=by
 cases hn:qdD a with
 |true=>
  have hk:=(qlO a ha).2 hn;have eb:qai a=[78,97,78]:=by unfold qai;rw[if_pos hk]
  rw[eb];decide
 |false=>
  obtain⟨s,r,rfl,hr⟩:=qco a ha hn;rcases Nat.lt_or_ge r INF with hr'|hr'
  ·obtain⟨W,T,hX,hW,hT,hW0,hl,hA,hTl,k1,k2,k3,k4,k5,k6,k7⟩:=qcr s r hr';intro c hc e;have:=(qcJ _ k1).1 c hc;subst e;exact absurd this (by decide)
  ·obtain rfl:=Nat.le_antisymm hr hr';cases s
   ·rw[qcc];decide
   ·rw[qcb];decide
theorem qq5 (t:Int): ∀c∈Lib.itoa t,c≠10:=by
 rw[qec];have hd:=qbT t.natAbs;intro x hx;rw[List.mem_append] at hx;rcases hx with hx|hx
 ·unfold sg at hx
  split at hx
  ·simp at hx;subst hx;decide
  ·cases hx
 ·intro e;have:=qbR (qaX hd x hx);subst e;exact absurd this (by decide)
theorem qsm (l:List UInt8): ∀c∈L.quL l,c≠10:=by
 intro c hc;unfold L.quL at hc;rw[List.mem_flatMap] at hc;obtain⟨x,_,hx⟩:=hc;unfold L.encq at hx
 split at hx
 ·simp at hx;rcases hx with rfl|rfl<;>decide
 ·split at hx
  ·simp at hx;rcases hx with rfl|rfl<;>decide
  ·split at hx
   ·simp at hx;rcases hx with rfl|rfl<;>decide
   ·rename_i hn _
    rw[List.mem_singleton] at hx;rw[hx];exact hn
theorem qin: ∀L:List (List UInt8),(∀a∈L,∀c∈a,c≠10)→ ∀c∈qbj L,c≠10
 | [],_=>fun c hc=>by cases hc
 | [a],h=>fun c hc=>h a (List.mem_cons_self ..) c hc
 |a::b::t,h=>fun c hc=>by
  have ih:=qin (b::t) (fun x hx=>h x (List.mem_cons_of_mem _ hx));rw[qbj,List.mem_append,List.mem_cons] at hc;rcases hc with hc|hc|hc
  ·exact h a (List.mem_cons_self ..) c hc
  ·rw[hc];decide
  ·exact ih c hc
theorem qij {o:UInt8} (ho:nch o 10=false) {n:List UInt8} (h:qak o n=true): ∀c∈n,c≠10:=fun c hc e=>by
 subst e;have:=(qaR h).2.1 10 hc;rw[ho] at this;cases this
theorem qpb (s:Smp) (hb:s.bits<18446744073709551616) (hr:qaT s=true): ∀c∈qaC s,c≠10:=by
 obtain⟨r1,r2,r3,r4⟩:=qaJ hr;obtain⟨q1,q2,q3⟩:=(qaH _).1 r1;have hn:=qij (by decide) r2;have hx:=qn6 s.bits hb;have hi:=qq5 s.t
 have hj:=qin ((s.ls.filter (fun x=>!(x.1==qah))).map lbT) (by
  intro a ha c hc;obtain⟨x,hx,rfl⟩:=List.mem_map.1 ha;have hk:=qd9 (q2 x (List.mem_filter.1 hx).1).1;unfold lbT at hc;rw[List.mem_append,List.mem_cons,List.mem_append,List.mem_cons,List.mem_singleton] at hc;rcases hc with hc|hc|(hc|hc)|hc
  ·exact qij (by decide) hk.1 c hc
  ·rw[hc];decide
  ·rw[hc];decide
  ·exact qsm _ c hc
  ·rw[hc];decide)
 intro c hc;unfold qaC at hc;dsimp only at hc;rw[List.mem_append,List.mem_append,List.mem_cons,List.mem_append] at hc;rcases hc with hc|hc|hc|hc|hc
 ·exact hn c hc
 ·split at hc
  ·cases hc
  ·rw[List.mem_cons,List.mem_append,List.mem_singleton] at hc;rcases hc with hc|hc|hc
   ·rw[hc];decide
   ·exact hj c hc
   ·rw[hc];decide
 ·rw[hc];decide
 ·exact hx c hc
 ·split at hc
  ·rw[List.mem_cons] at hc;rcases hc with hc|hc
   ·rw[hc];decide
   ·exact hi c hc
  ·cases hc
theorem qjK (s:Smp) (hr:qaT s=true):kindN (qaC s)=1:=by
 obtain⟨r1,r2,r3,r4⟩:=qaJ hr;obtain⟨n1,n2,n3⟩:=qaR r2;have hnb: ∀c∈qaF s.ls qah,nb c=true:=fun c hc=>qhL (by decide) (n2 c hc)
 have ht:tb (qaC s)=qaC s:=by unfold qaC;exact qcC _ _ n1 hnb
 obtain⟨c,t,e⟩: ∃c t,qaF s.ls qah=c::t:=by
  cases h:qaF s.ls qah with
  |nil=>exact absurd h n1
  |cons c t=>exact⟨c,t,rfl⟩
 have hc:c≠35:=by
  have:=n2 c (by rw[e];exact List.mem_cons_self ..);intro e2;subst e2;revert this;decide
 have hl: ∃u,qaC s=c::u:=by unfold qaC;dsimp only;rw[e];exact⟨_,rfl⟩
 obtain⟨u,hu⟩:=hl;unfold kindN;rw[ht,hu,if_neg (by simp),if_neg (by simpa using hc)]
structure SOk (s:Smp):Prop where
 r:qaT s=true
 b:s.bits<18446744073709551616
 t0: -9223372036854775808≤s.t
 t1:s.t≤9223372036854775807
 l:(qaC s).length≤5000
theorem SOk.line {s:Smp} (h:SOk s):qhx s=(0,qaC s):=by
 unfold qhx;have:=h.l;rw[if_pos h.r,if_neg (by omega)]
theorem SOk.read {s:Smp} (h:SOk s):qaq (qaC s)=(0,s):=qjB s h.b h.t0 h.t1 h.r (by have:=h.l;omega)
theorem qeL (a:List UInt8) (t:List (List UInt8)):qbp (a::t)=a++10::qbp t:=by simp[qbp]
theorem qdZ (a b:List (List UInt8)):qbp (a++b)=qbp a++qbp b:=by simp[qbp]
abbrev Tf:=List UInt8→Option (List UInt8)
def tf0:Tf:=fun _=>none
def qh3 (f:Tf) (x:Lb):Tf:=fun n=>if n=x.1 then (if emp x=true then none else some x.2) else f n
def qcw (f:Tf) (ls:List Lb):Tf:=ls.foldl qh3 f
def qs9 (ls eds r:List Lb):Prop:=Inc r∧(∀x:Lb,x∈r↔qcw (qcw tf0 ls) eds x.1=some x.2)∧r.length≤ls.length+eds.length
theorem qdW (n:List UInt8): ∀(ls:List Lb) (f:Tf),(∀x∈ls,x.1≠n)→qcw f ls n=f n
 | [],_,_=>rfl
 |x::t,f,h=>by
  show qcw (qh3 f x) t n=_;rw[qdW n t _ (fun y hy=>h y (List.mem_cons_of_mem _ hy))];unfold qh3;rw[if_neg (fun e=>h x (List.mem_cons_self ..) e.symm)]
theorem qf8 (ls:List Lb) (hi:Inc ls) (he: ∀x∈ls,emp x=false): ∀(f:Tf) (x:Lb),x∈ls→qcw f ls x.1=some x.2:=by
 induction ls with
 |nil=>intro f x hx;cases hx
 |cons y t ih=>
  intro f x hx;obtain⟨h1,h2⟩:=List.pairwise_cons.1 hi;show qcw (qh3 f y) t x.1=_;rcases List.mem_cons.1 hx with rfl|hx
  ·rw[qdW x.1 t _ (fun z hz e=>by have:=h1 z hz;rw[e] at this;exact qbV _ this)];unfold qh3;rw[if_pos rfl,if_neg (by rw[he x (List.mem_cons_self ..)];decide)]
  ·exact ih h2 (fun z hz=>he z (List.mem_cons_of_mem _ hz)) _ x hx
theorem qlL (ls:List Lb) (hi:Inc ls) (he: ∀x∈ls,emp x=false) (x:Lb):qcw tf0 ls x.1=some x.2↔x∈ls:=by
 constructor
 ·intro h
  by_cases hx: ∃y∈ls,y.1=x.1
  ·obtain⟨y,hy,e⟩:=hx;have:=qf8 ls hi he tf0 y hy;rw[e,h] at this;have e2:x=y:=Prod.ext e.symm (Option.some.inj this);rw[e2];exact hy
  ·rw[qdW x.1 ls tf0 (fun y hy e=>hx ⟨y,hy,e⟩)] at h;cases h
 ·exact qf8 ls hi he tf0 x
theorem qkO {ls r:List Lb} {n v:List UInt8} (hr:qaO ls=true) (hv:v≠[]) (h:qs9 ls [(n,v)] r):Inc r∧(∀x,x∈r↔x=(n,v)∨(x∈ls∧x.1≠n))∧r.length≤ls.length+1:=by
 obtain⟨q1,q2,q3⟩:=(qaH _).1 hr;obtain⟨h1,h2,h3⟩:=h;refine⟨h1,fun x=>?_,h3⟩;rw[h2 x];show qh3 (qcw tf0 ls) (n,v) x.1=some x.2↔_;unfold qh3
 have hem:emp (n,v)=false:=by unfold emp;cases v with
  |nil=>exact absurd rfl hv
  |cons c t=>rfl
 by_cases hx:x.1=n
 ·rw[if_pos hx,if_neg (by rw[hem];decide)];constructor
  ·intro e;exact .inl (Prod.ext hx (Option.some.inj e).symm)
  ·rintro(e|⟨_,e⟩)
   ·rw[e]
   ·exact absurd hx e
 ·rw[if_neg hx,qlL ls q3 (fun y hy=>(q2 y hy).2)];constructor
  ·exact fun e=> .inr ⟨e,hx⟩
  ·rintro(e|⟨e,_⟩)
   ·rw[e] at hx;exact absurd rfl hx
   ·exact e
theorem set_right {ls r:List Lb} {n v:List UInt8} (hr:qaO ls=true) (hl:ls.length≤60) (hv:v≠[]) (h1:qak 95 n=true) (h2:qbk v=true) (h:qs9 ls [(n,v)] r):qaO r=true∧qaF r n=v:=by
 obtain⟨q1,q2,q3⟩:=(qaH _).1 hr;obtain⟨s1,s2,s3⟩:=qkO hr hv h;refine⟨(qaH _).2 ⟨by omega,fun x hx=>?_,s1⟩,?_⟩
 ·rcases(s2 x).1 hx with rfl|⟨hx,_⟩
  ·exact⟨ok_one h1 h2,by unfold emp;cases v with
    |nil=>exact absurd rfl hv
    |cons c t=>rfl⟩
  ·exact q2 x hx
 ·exact qks s1 ((s2 (n,v)).2 (.inl rfl))
structure MdS (s:Smp):Prop where
 ok:SOk s
 n:s.ls.length≤41
 v: ∀x∈s.ls,x.1.length≤128∧x.2.length≤10
theorem qms {ls r:List Lb} {v:List UInt8} {bits:Nat} {st:Bool} {t:Int} (hr:qaO ls=true) (hl:ls.length≤16) (hk: ∀x∈ls,x.2.length≤10) (hv:qak 58 v=true) (hv2:qbk v=true) (hv3:v.length≤10) (h:qs9 ls [(qah,v)] r)
 (hb:bits<18446744073709551616) (hn:Go.Proofs.YtdeimnnpcfncpaaGreatDoor.kindN bits≠4) (hst:st=true∨t=0) (h0: -9223372036854775808≤t) (h1:t≤9223372036854775807):MdS ⟨r,bits,st,t⟩:=by
 have hv0:=(qaR hv).1;obtain⟨r1,r2⟩:=set_right hr (by omega) hv0 (by decide) hv2 h;obtain⟨s1,s2,s3⟩:=qkO hr hv0 h;have hR:qaT ⟨r,bits,st,t⟩=true:=qdu r1 (by show qak 58 (qaF r qah)=true;rw[r2];exact hv) (.inl hn) hst
 have hK: ∀x∈r,x.2.length≤10:=fun x hx=>by
  rcases(s2 x).1 hx with rfl|⟨hx,_⟩
  ·exact hv3
  ·exact hk x hx
 have hL:=qke ⟨r,bits,st,t⟩ hb h0 h1 hR 10 hK;obtain⟨q1,q2,q3⟩:=(qaH _).1 r1;refine⟨⟨hR,hb,h0,h1,?_⟩,?_,fun x hx=>⟨?_,hK x hx⟩⟩
 ·have e:(⟨r,bits,st,t⟩:Smp).ls.length≤17:=by show r.length≤17;omega
  have:(⟨r,bits,st,t⟩:Smp).ls.length*(132+2*10)≤17*152:=Nat.mul_le_mul e (Nat.le_refl _);omega
 ·show r.length≤41;omega
 ·exact(qaR (qd9 (q2 x hx).1).1).2.2
noncomputable def qdA:Nat→List (List UInt8)→List Smp→Int×Nat×List Smp
 |_,[],acc=>(0,0,acc)
 |i,l::t,acc=>if kindN l=1 then (if (qaq l).1=0 then qdA (i+1) t (acc++[(qaq l).2]) else ((qaq l).1,i+1,[])) else qdA (i+1) t acc
theorem qdh (l:List UInt8):kindN l=0∨kindN l=1∨kindN l=2∨kindN l=3∨kindN l=4:=by
 unfold kindN
 repeat' split
 all_goals simp
theorem qko (b:Bdy) (l:List UInt8) (h:kindN l=0∨kindN l=4):qbF b l=(0,b):=by
 unfold qbF;rcases h with h|h<;>(rw[h];rfl)
theorem qlK (b:Bdy) (l:List UInt8) (h:kindN l=1) (hn:b.s.length<1000):qbF b l=((qaq l).1,{b with s:=b.s++[(qaq l).2]}):=by
 unfold qbF;rw[h];simp only;rw[if_neg (by omega)]
theorem qcX: ∀(ls:List (List UInt8)) (n:Nat) (b:Bdy),(∀l∈ls,kindN l≠2∧kindN l≠3)→b.s.length+ls.length≤1000→
 qaz n ls b=if (qdA n ls b.s).1=0 then (0,0,{b with s:=(qdA n ls b.s).2.2}) else ((qdA n ls b.s).1,(((qdA n ls b.s).2.1:Nat):Int),qcs)
 | [],n,b,_,_=>by rw[qaz,qdA,if_pos rfl]
 |l::t,n,b,h,hl=>by
  rw[List.length_cons] at hl;have hk:=h l (List.mem_cons_self ..);have ht:=fun x hx=>h x (List.mem_cons_of_mem l hx)
  rw[qaz,qdA]
  by_cases h1:kindN l=1
  ·rw[qlK b l h1 (by omega),if_pos h1]
   by_cases h0:(qaq l).1=0
   ·simp only[h0,if_true];rw[qcX t (n+1) _ ht (by simp only[List.length_append,List.length_singleton];omega)]
   ·simp only[h0,if_false]
  ·have ho:=qko b l (by have:=qdh l;omega);rw[ho,if_neg h1];simp only[if_true];exact qcX t (n+1) b ht (by omega)
noncomputable def qkJ (l:List UInt8):Prop:=(kindN l=1∧(qaq l).1=0)∨kindN l=0∨kindN l=4
noncomputable def qcz (ls:List (List UInt8)):List Smp:=(ls.filter (fun l=>kindN l==1)).map (fun l=>(qaq l).2)
theorem qik (a b:List (List UInt8)):qcz (a++b)=qcz a++qcz b:=by simp[qcz]
theorem qcq: ∀(ls r:List (List UInt8)) (n:Nat) (b:Bdy),(∀l∈ls,qkJ l)→b.s.length+ls.length≤1000→qaz n (ls++r) b=qaz (n+ls.length) r {b with s:=b.s++qcz ls}
 | [],r,n,b,_,_=>by simp[qcz]
 |l::t,r,n,b,h,hl=>by
  rw[List.length_cons] at hl;have ht:=fun x hx=>h x (List.mem_cons_of_mem l hx)
  rw[List.cons_append,qaz];rcases h l (List.mem_cons_self ..)with ⟨h1,h0⟩|ho
  ·rw[qlK b l h1 (by omega)];simp only[h0,if_true];rw[qcq t r (n+1) _ ht (by simp only[List.length_append,List.length_singleton];omega),List.length_cons];have e:qcz (l::t)=(qaq l).2::qcz t:=by unfold qcz;rw[List.filter_cons_of_pos (by simp[h1])];rfl
   rw[e,show n+1+t.length=n+(t.length+1) by omega];simp
  ·rw[qko b l ho];simp only[if_true];rw[qcq t r (n+1) b ht (by omega),List.length_cons];have e:qcz (l::t)=qcz t:=by unfold qcz;rw[List.filter_cons_of_neg (by rcases ho with ho|ho<;>simp[ho])]
   rw[e,show n+1+t.length=n+(t.length+1) by omega]
theorem qeM (A B:List (List UInt8)) (odd:List UInt8) (hA: ∀l∈A,qkJ l) (hB: ∀l∈B,qkJ l) (hk:kindN odd=2∨kindN odd=3) (hl:A.length+B.length≤900):
 (∃b,qaz 0 (A++odd::B) qcs=(0,0,b)∧b.s=qcz (A++B))∨(∃e,qaz 0 (A++odd::B) qcs=(e,((A.length+1:Nat):Int),qcs)∧(e=236∨e=237)):=by
 rw[qcq A (odd::B) 0 qcs hA (by show 0+_≤_;omega),qaz,Nat.zero_add];have hs:qcz A=qcz A:=rfl;have hlen:(qcz A).length≤A.length:=by unfold qcz;rw[List.length_map];exact List.length_filter_le _ _
 have key: ∀(b:Bdy) (n:Nat),b.s=qcz A→ ∃b',qaz n B b=(0,0,b')∧b'.s=qcz (A++B):=fun b n hb=>by
  have:=qcq B [] n b hB (by rw[hb];omega);rw[List.append_nil,qaz] at this;exact⟨_,this,by rw[hb,qik]⟩
 rcases hk with hk|hk
 ·have ha:qbF {qcs with s:=qcs.s++qcz A} odd=((qcx odd).1,{s:=qcs.s++qcz A,t:=[],h:=[(qcx odd).2]}):=by
   unfold qbF;rw[hk];simp only;rw[if_neg (by rintro⟨_,h⟩;cases h)];rfl
  rw[ha]
  by_cases h0:(qcx odd).1=0
  ·simp only[h0,if_true];exact .inl (key _ _ rfl)
  ·simp only[h0,if_false];refine .inr ⟨_,rfl,.inr ?_⟩;unfold qcx at h0⊢
   split at h0
   ·exact absurd rfl h0
   ·rename_i hh;rw[if_neg hh]
 ·have ha:qbF {qcs with s:=qcs.s++qcz A} odd=((qcu odd).1,{s:=qcs.s++qcz A,t:=[(qcu odd).2],h:=[]}):=by
   unfold qbF;rw[hk];simp only;rw[if_neg (by rintro⟨_,h⟩;cases h)];rfl
  rw[ha]
  by_cases h0:(qcu odd).1=0
  ·simp only[h0,if_true];exact .inl (key _ _ rfl)
  ·simp only[h0,if_false];refine .inr ⟨_,rfl,.inl ?_⟩;unfold qcu at h0⊢
   split at h0
   ·exact absurd rfl h0
   ·rename_i hh;rw[if_neg hh]
theorem qd1 (a:UInt8) (new:List UInt8) (s:List UInt8) (h:a∉s):s.flatMap (fun c=>if c=a then new else [c])=s:=by
 induction s with
 |nil=>rfl
 |cons c t ih=>
  rw[List.flatMap_cons,ih (fun hm=>h (List.mem_cons_of_mem _ hm)),if_neg (show¬c=a from fun e=>h (e▸List.mem_cons_self ..))];rfl
theorem qiO (a:UInt8) (new:List UInt8): ∀(k:Nat) (s:List UInt8),s.count a≤k→Lib.replaceK [a] new k s=s.flatMap (fun c=>if c=a then new else [c]):=by
 intro k
 induction k with
 |zero=>
  intro s h;rw[Lib.replaceK,qd1 a new s (List.count_eq_zero.1 (by omega))]
 |succ k ih=>
  intro s h;have hi:=index_one s a
  by_cases hm:a∈s
  ·rw[if_pos hm] at hi;obtain⟨p,t,rfl,hp⟩:=List.eq_append_cons_of_mem hm
   have htw:(p++a::t).takeWhile (·!=a)=p:=by
    rw[List.takeWhile_append_of_pos (fun x hx=>by simpa using fun e:x=a=>hp (e▸hx))];simp
   rw[htw] at hi
   have hc:t.count a≤k:=by
    rw[List.count_append,List.count_cons_self] at h;omega
   rw[Lib.replaceK_hit [a] new k _ _ hi,List.take_left,List.flatMap_append,List.flatMap_cons,qd1 a new p hp,if_pos rfl,←ih t hc,List.append_assoc]
   congr 3
   show(p++a::t).drop (p.length+1)=t;rw[←List.drop_drop,List.drop_left];rfl
  ·rw[if_neg hm] at hi;rw[Lib.replaceK,if_pos (by rw[hi];rfl),qd1 a new s hm]
theorem qkj (a:UInt8) (new s:List UInt8) (hn:[a]≠new):Lib.replaceAll s [a] new=s.flatMap (fun c=>if c=a then new else [c]):=by
 unfold Lib.replaceAll Lib.replace;rw[if_neg (by simpa using hn)];unfold Lib.replaceNum;rw[if_pos (.inl (by decide)),Lib.count_one];exact qiO a new _ s (Nat.le_refl _)
theorem qnp {W W':World} {base e k n:Nat} {v:Value} {xs:List Value} (h:W.ownsRow base e k v n xs) (hk: ∀row,v.ownBlock≠some row→row<W.heap.size→W'.heap[row]?=W.heap[row]?):Lib.OthersKept e none W W':=by
 intro j o hj _ ho;refine(hk j (fun e2=>?_) (Array.getElem?_eq_some_iff.1 hj).1).trans hj;rcases h.2 with ⟨rfl,_⟩|⟨g,cap,cur,rfl,_,h3,_⟩
 ·cases e2
 ·cases e2;rw[hj] at h3;cases h3;exact ho _ _ rfl
theorem qqU (a:UInt8) (new x:List UInt8) (hn:[a]≠new) (hx:x.length≤100000) (hw:new.length≤10) (w:World) (hG:EGlb w):
 Calls Tryz.prog 24 #[.string (BS x),.string (BS [a]),.string (BS new)] w fun e w'=>e= .returned (.string (BS (x.flatMap fun c=>if c=a then new else [c])))∧Below w.heap.size w w':=by
 obtain⟨m,hm⟩:=hG.b.m;have hz:=qad x;have hd: ∀l:List UInt8,(BS l).data.toList=l:=fun l=>by simp[BS]
 have h:=Any.strings_ReplaceAll Tryz.laysM155.ton155 Tryz.Builder_Extra_M155 (BS x) (BS [a]) (BS new) m w (by omega) hm (by rw[qad];simp) (by
  show(BS x).size+Lib.count (BS x).data.toList (BS [a]).data.toList*(BS new).size≤_;rw[hd,hd,Lib.count_one,qad,qad];have h1:=List.count_le_length (a:=a) (l:=x);have h2:=Nat.mul_le_mul h1 hw
  omega)
 rw[hd,hd,hd,qkj a new x hn] at h;exact h
theorem Bd3.on {D:Nat} {a b c:Value} {W W':World} (h:Bd3 D a b c W) (hb:Below W.heap.size W W'):Bd3 D a b c W':=(hb.block D h.lt).trans h
section
variable {w:World} {N D:Nat} {ts hs:List Lb} {acc:List UInt8} {tv hv:Value} {W W':World}
end
end Go.Proofs.YtdeimnnpcfncpaaGreatDoor.X
