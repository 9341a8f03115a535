/- Parts of the proof: U0 V0 V3 R0 R1. -/
import Derived.Test.YtdeimnnpcfncpaaGreatDoorCB43
set_option linter.unusedVariables false
set_option linter.unusedSimpArgs false
set_option maxRecDepth 100000
set_option maxHeartbeats 64000000
namespace Go.Proofs.YtdeimnnpcfncpaaGreatDoor.X
open Go Go.RowKit
def qa7 (ls:List (List UInt8)):List UInt8:=ls.flatMap (fun l=>l++[10])
theorem qeO: ∀ls:List (List UInt8),(∀l∈ls,∀c∈l,c≠10)→L.linesL (qa7 ls)=ls
 | [],_=>L.linesL_nil
 |l::t,h=>by
  have ht:=qeO t (fun x hx=>h x (List.mem_cons_of_mem _ hx));have hl:=h l (List.mem_cons_self ..);have e:qa7 (l::t)=l++(10::qa7 t):=by simp[qa7]
  have hp: ∀a∈l,(a !=10)=true:=fun a ha=>by simpa using hl a ha
  rw[e,L.linesL_cons _ (by simp),List.takeWhile_append_of_pos hp,List.dropWhile_append_of_pos hp];simp[ht]
theorem qna (a:Nat) (ha:a<18446744073709551616): ∀c∈qah a,c≠10:=by
 cases hn:qdx a with
 |true=>
  have hk:=(qnt a ha).2 hn;have eb:qah a=[78,97,78]:=by unfold qah;rw[if_pos hk]
  rw[eb];decide
 |false=>
  obtain⟨s,r,rfl,hr⟩:=qcb a ha hn;rcases Nat.lt_or_ge r INF with hr'|hr'
  ·obtain⟨W,T,hX,hW,hT,hW0,hl,hA,hTl,k1,k2,k3,k4,k5,k6,k7⟩:=qck s r hr';intro c hc e;have:=(qcy _ k1).1 c hc;subst e;exact absurd this (by decide)
  ·obtain rfl:=Nat.le_antisymm hr hr';cases s
   ·rw[qcj];decide
   ·rw[qcn];decide
theorem qqe (t:Int): ∀c∈Lib.itoa t,c≠10:=by
 rw[qdD];have hd:=qbT t.natAbs;intro x hx;rw[List.mem_append] at hx;rcases hx with hx|hx
 ·unfold sg at hx
  split at hx
  ·simp at hx;subst hx;decide
  ·cases hx
 ·intro e;have:=qbS (qaS hd x hx);subst e;exact absurd this (by decide)
theorem qqL (l:List UInt8): ∀c∈L.quL l,c≠10:=by
 intro c hc;unfold L.quL at hc;rw[List.mem_flatMap] at hc;obtain⟨x,_,hx⟩:=hc;unfold L.encq at hx
 split at hx
 ·simp at hx;rcases hx with rfl|rfl<;>decide
 ·split at hx
  ·simp at hx;rcases hx with rfl|rfl<;>decide
  ·split at hx
   ·simp at hx;rcases hx with rfl|rfl<;>decide
   ·rename_i hn _
    rw[List.mem_singleton] at hx;rw[hx];exact hn
theorem qhX: ∀L:List (List UInt8),(∀a∈L,∀c∈a,c≠10)→ ∀c∈qbj L,c≠10
 | [],_=>fun c hc=>by cases hc
 | [a],h=>fun c hc=>h a (List.mem_cons_self ..) c hc
 |a::b::t,h=>fun c hc=>by
  have ih:=qhX (b::t) (fun x hx=>h x (List.mem_cons_of_mem _ hx));rw[qbj,List.mem_append,List.mem_cons] at hc;rcases hc with hc|hc|hc
  ·exact h a (List.mem_cons_self ..) c hc
  ·rw[hc];decide
  ·exact ih c hc
theorem qhA {o:UInt8} (ho:nch o 10=false) {n:List UInt8} (h:qan o n=true): ∀c∈n,c≠10:=fun c hc e=>by
 subst e;have:=(qaR h).2.1 10 hc;rw[ho] at this;cases this
theorem qpk (s:Smp) (hb:s.bits<18446744073709551616) (hr:qaW s=true): ∀c∈qam s,c≠10:=by
 obtain⟨r1,r2,r3,r4⟩:=qaF hr;obtain⟨q1,q2,q3⟩:=(qaO _).1 r1;have hn:=qhA (by decide) r2;have hx:=qna s.bits hb;have hi:=qqe s.t
 have hj:=qhX ((s.ls.filter (fun x=>!(x.1==qag))).map lbT) (by
  intro a ha c hc;obtain⟨x,hx,rfl⟩:=List.mem_map.1 ha;have hk:=qdG (q2 x (List.mem_filter.1 hx).1).1;unfold lbT at hc;rw[List.mem_append,List.mem_cons,List.mem_append,List.mem_cons,List.mem_singleton] at hc;rcases hc with hc|hc|(hc|hc)|hc
  ·exact qhA (by decide) hk.1 c hc
  ·rw[hc];decide
  ·rw[hc];decide
  ·exact qqL _ c hc
  ·rw[hc];decide)
 intro c hc;unfold qam at hc;dsimp only at hc;rw[List.mem_append,List.mem_append,List.mem_cons,List.mem_append] at hc;rcases hc with hc|hc|hc|hc|hc
 ·exact hn c hc
 ·split at hc
  ·cases hc
  ·rw[List.mem_cons,List.mem_append,List.mem_singleton] at hc;rcases hc with hc|hc|hc
   ·rw[hc];decide
   ·exact hj c hc
   ·rw[hc];decide
 ·rw[hc];decide
 ·exact hx c hc
 ·split at hc
  ·rw[List.mem_cons] at hc;rcases hc with hc|hc
   ·rw[hc];decide
   ·exact hi c hc
  ·cases hc
theorem qge (s:Smp) (hr:qaW s=true):kindN (qam s)=1:=by
 obtain⟨r1,r2,r3,r4⟩:=qaF hr;obtain⟨n1,n2,n3⟩:=qaR r2;have hnb: ∀c∈qaE s.ls qag,nb c=true:=fun c hc=>qhW (by decide) (n2 c hc)
 have ht:tb (qam s)=qam s:=by unfold qam;exact qcu _ _ n1 hnb
 obtain⟨c,t,e⟩: ∃c t,qaE s.ls qag=c::t:=by
  cases h:qaE s.ls qag with
  |nil=>exact absurd h n1
  |cons c t=>exact⟨c,t,rfl⟩
 have hc:c≠35:=by
  have:=n2 c (by rw[e];exact List.mem_cons_self ..);intro e2;subst e2;revert this;decide
 have hl: ∃u,qam s=c::u:=by unfold qam;dsimp only;rw[e];exact⟨_,rfl⟩
 obtain⟨u,hu⟩:=hl;unfold kindN;rw[ht,hu,if_neg (by simp),if_neg (by simpa using hc)]
structure SOk (s:Smp):Prop where
 r:qaW s=true
 b:s.bits<18446744073709551616
 t0: -9223372036854775808≤s.t
 t1:s.t≤9223372036854775807
 l:(qam s).length≤5000
theorem SOk.line {s:Smp} (h:SOk s):qcZ s=(0,qam s):=by
 unfold qcZ;have:=h.l;rw[if_pos h.r,if_neg (by omega)]
theorem SOk.read {s:Smp} (h:SOk s):qax (qam s)=(0,s):=qgG s h.b h.t0 h.t1 h.r (by have:=h.l;omega)
theorem SOk.add {s:Smp} (h:SOk s) (b:Bdy) (hn:b.s.length<1000):qb6 b (qam s)=(0,{b with s:=b.s++[s]}):=by
 unfold qb6;rw[qge s h.r];simp only[h.read];rw[if_neg (by omega)]
theorem qkj {a b:Smp} (ha:SOk a) (hb:SOk b) (h:qam a=qam b):a=b:=by
 have h1:=ha.read;rw[h,hb.read] at h1;exact(Prod.mk.inj h1).2.symm
theorem qcV (a:List UInt8) (t:List (List UInt8)):qa7 (a::t)=a++10::qa7 t:=by simp[qa7]
theorem qk0 (a b:List (List UInt8)):qa7 (a++b)=qa7 a++qa7 b:=by simp[qa7]
theorem qga (M:Nat): ∀L:List (List UInt8),(∀a∈L,a.length≤M)→(qa7 L).length≤L.length*(M+1)
 | [],_=>by simp[qa7]
 |a::t,h=>by
  have ih:=qga M t (fun x hx=>h x (List.mem_cons_of_mem _ hx));have:=h a (List.mem_cons_self ..);rw[qcV,List.length_append,List.length_cons,List.length_cons,Nat.succ_mul];omega
theorem qdU: ∀(ss:List Smp) (n:Nat) (b:Bdy),(∀s∈ss,SOk s)→b.s.length+ss.length≤1000→qaP n (ss.map qam) b=(0,0,{b with s:=b.s++ss})
 | [],n,b,_,_=>by rw[List.map_nil,qaP,List.append_nil]
 |s::t,n,b,h,hl=>by
  rw[List.length_cons] at hl;rw[List.map_cons,qaP,(h s (List.mem_cons_self ..)).add b (by omega),if_pos rfl,qdU t (n+1) _ (fun x hx=>h x (List.mem_cons_of_mem _ hx)) (by simp;omega)];simp
theorem qic: ∀(ss:List Smp) (i:Nat) (acc:List UInt8),(∀s∈ss,SOk s)→acc.length+(qa7 (ss.map qam)).length≤65536→qbc i acc ss=(0,-1,acc++qa7 (ss.map qam))
 | [],i,acc,_,_=>by rw[qbc,List.map_nil];simp[qa7]
 |s::t,i,acc,h,hl=>by
  have hs:=(h s (List.mem_cons_self ..)).line;rw[List.map_cons,qcV] at hl⊢;rw[List.length_append,List.length_cons] at hl;rw[qbc,hs,if_pos rfl,if_pos (by omega),qic t (i+1) _ (fun x hx=>h x (List.mem_cons_of_mem _ hx)) (by simp only[List.length_append,List.length_cons,List.length_nil];omega)];simp
theorem SOk.feed {ss:List Smp} (h: ∀s∈ss,SOk s) (hn:ss.length≤12):(qa7 (ss.map qam)).length≤60012:=by
 have:=qga 5000 (ss.map qam) (fun a ha=>by obtain⟨s,hs,rfl⟩:=List.mem_map.1 ha;exact(h s hs).l);rw[List.length_map] at this;have h2:ss.length*(5000+1)≤12*5001:=Nat.mul_le_mul hn (Nat.le_refl _);omega
theorem SOk.lines {ss:List Smp} (h: ∀s∈ss,SOk s): ∀l∈ss.map qam,∀c∈l,c≠10:=fun l hl=>by
 obtain⟨s,hs,rfl⟩:=List.mem_map.1 hl;exact qpk s (h s hs).b (h s hs).r
theorem qji {ss:List Smp} (h: ∀s∈ss,SOk s) (hn:ss.length≤12):qdO ss=(0,-1,qa7 (ss.map qam)):=by
 have hf:=SOk.feed h hn;unfold qdO;rw[qic ss 0 [] h (by simp;omega)];simp only[List.nil_append];rw[if_pos trivial,if_neg (by omega),if_neg (by omega)]
theorem qiC (ls:List (List UInt8)) (a:List UInt8) (h: ∀l∈ls,∀c∈l,c≠10) (ha: ∀c∈a,c≠10) (h0:a≠[]):L.linesL (qa7 ls++a)=ls++[a]:=by
 induction ls with
 |nil=>
  have hp: ∀x∈a,(x !=10)=true:=fun x hx=>by simpa using ha x hx
  have e1:a.takeWhile (·!=10)=a:=by
   have:=List.takeWhile_append_of_pos (l₂:=[]) hp;simpa using this
  have e2:a.dropWhile (·!=10)=[]:=by
   have:=List.dropWhile_append_of_pos (l₂:=[]) hp;simpa using this
  rw[show qa7 []++a=a from rfl,L.linesL_cons a h0,e1,e2];simp[L.linesL_nil]
 |cons l t ih=>
  have hp: ∀x∈l,(x !=10)=true:=fun x hx=>by simpa using h l (List.mem_cons_self ..) x hx
  rw[qcV,List.append_assoc,List.cons_append,L.linesL_cons _ (by simp),List.takeWhile_append_of_pos hp,List.dropWhile_append_of_pos hp];simp[ih (fun x hx=>h x (List.mem_cons_of_mem _ hx))]
abbrev Tf:=List UInt8→Option (List UInt8)
def tf0:Tf:=fun _=>none
def qhU (f:Tf) (x:Lb):Tf:=fun n=>if n=x.1 then (if emp x=true then none else some x.2) else f n
def qcp (f:Tf) (ls:List Lb):Tf:=ls.foldl qhU f
def qst (ls eds r:List Lb):Prop:=Inc r∧(∀x:Lb,x∈r↔qcp (qcp tf0 ls) eds x.1=some x.2)∧r.length≤ls.length+eds.length
theorem qd3 (n:List UInt8): ∀(ls:List Lb) (f:Tf),(∀x∈ls,x.1≠n)→qcp f ls n=f n
 | [],_,_=>rfl
 |x::t,f,h=>by
  show qcp (qhU f x) t n=_;rw[qd3 n t _ (fun y hy=>h y (List.mem_cons_of_mem _ hy))];unfold qhU;rw[if_neg (fun e=>h x (List.mem_cons_self ..) e.symm)]
theorem qfT (ls:List Lb) (hi:Inc ls) (he: ∀x∈ls,emp x=false): ∀(f:Tf) (x:Lb),x∈ls→qcp f ls x.1=some x.2:=by
 induction ls with
 |nil=>intro f x hx;cases hx
 |cons y t ih=>
  intro f x hx;obtain⟨h1,h2⟩:=List.pairwise_cons.1 hi;show qcp (qhU f y) t x.1=_;rcases List.mem_cons.1 hx with rfl|hx
  ·rw[qd3 x.1 t _ (fun z hz e=>by have:=h1 z hz;rw[e] at this;exact qbX _ this)];unfold qhU;rw[if_pos rfl,if_neg (by rw[he x (List.mem_cons_self ..)];decide)]
  ·exact ih h2 (fun z hz=>he z (List.mem_cons_of_mem _ hz)) _ x hx
theorem qkg (ls:List Lb) (hi:Inc ls) (he: ∀x∈ls,emp x=false) (x:Lb):qcp tf0 ls x.1=some x.2↔x∈ls:=by
 constructor
 ·intro h
  by_cases hx: ∃y∈ls,y.1=x.1
  ·obtain⟨y,hy,e⟩:=hx;have:=qfT ls hi he tf0 y hy;rw[e,h] at this;have e2:x=y:=Prod.ext e.symm (Option.some.inj this);rw[e2];exact hy
  ·rw[qd3 x.1 ls tf0 (fun y hy e=>hx ⟨y,hy,e⟩)] at h;cases h
 ·exact qfT ls hi he tf0 x
theorem qjO {ls r:List Lb} {n v:List UInt8} (hr:qaL ls=true) (hv:v≠[]) (h:qst ls [(n,v)] r):Inc r∧(∀x,x∈r↔x=(n,v)∨(x∈ls∧x.1≠n))∧r.length≤ls.length+1:=by
 obtain⟨q1,q2,q3⟩:=(qaO _).1 hr;obtain⟨h1,h2,h3⟩:=h;refine⟨h1,fun x=>?_,h3⟩;rw[h2 x];show qhU (qcp tf0 ls) (n,v) x.1=some x.2↔_;unfold qhU
 have hem:emp (n,v)=false:=by unfold emp;cases v with
  |nil=>exact absurd rfl hv
  |cons c t=>rfl
 by_cases hx:x.1=n
 ·rw[if_pos hx,if_neg (by rw[hem];decide)];constructor
  ·intro e;exact .inl (Prod.ext hx (Option.some.inj e).symm)
  ·rintro(e|⟨_,e⟩)
   ·rw[e]
   ·exact absurd hx e
 ·rw[if_neg hx,qkg ls q3 (fun y hy=>(q2 y hy).2)];constructor
  ·exact fun e=> .inr ⟨e,hx⟩
  ·rintro(e|⟨e,_⟩)
   ·rw[e] at hx;exact absurd rfl hx
   ·exact e
theorem set_right {ls r:List Lb} {n v:List UInt8} (hr:qaL ls=true) (hl:ls.length≤60) (hv:v≠[]) (h1:qan 95 n=true) (h2:qbm v=true) (h:qst ls [(n,v)] r):qaL r=true∧qaE r n=v:=by
 obtain⟨q1,q2,q3⟩:=(qaO _).1 hr;obtain⟨s1,s2,s3⟩:=qjO hr hv h;refine⟨(qaO _).2 ⟨by omega,fun x hx=>?_,s1⟩,?_⟩
 ·rcases(s2 x).1 hx with rfl|⟨hx,_⟩
  ·exact⟨ok_one h1 h2,by unfold emp;cases v with
    |nil=>exact absurd rfl hv
    |cons c t=>rfl⟩
  ·exact q2 x hx
 ·exact qpb s1 ((s2 (n,v)).2 (.inl rfl))
structure MdS (s:Smp):Prop where
 ok:SOk s
 n:s.ls.length≤41
 v: ∀x∈s.ls,x.1.length≤128∧x.2.length≤10
theorem qmQ {ls r:List Lb} {v:List UInt8} {bits:Nat} {st:Bool} {t:Int} (hr:qaL ls=true) (hl:ls.length≤16) (hk: ∀x∈ls,x.2.length≤10) (hv:qan 58 v=true) (hv2:qbm v=true) (hv3:v.length≤10) (h:qst ls [(qag,v)] r)
 (hb:bits<18446744073709551616) (hn:Go.Proofs.YtdeimnnpcfncpaaGreatDoor.kindN bits≠4) (hst:st=true∨t=0) (h0: -9223372036854775808≤t) (h1:t≤9223372036854775807):MdS ⟨r,bits,st,t⟩:=by
 have hv0:=(qaR hv).1;obtain⟨r1,r2⟩:=set_right hr (by omega) hv0 (by decide) hv2 h;obtain⟨s1,s2,s3⟩:=qjO hr hv0 h;have hR:qaW ⟨r,bits,st,t⟩=true:=qgI r1 (by show qan 58 (qaE r qag)=true;rw[r2];exact hv) (.inl hn) hst
 have hK: ∀x∈r,x.2.length≤10:=fun x hx=>by
  rcases(s2 x).1 hx with rfl|⟨hx,_⟩
  ·exact hv3
  ·exact hk x hx
 have hL:=qj2 ⟨r,bits,st,t⟩ hb h0 h1 hR 10 hK;obtain⟨q1,q2,q3⟩:=(qaO _).1 r1;refine⟨⟨hR,hb,h0,h1,?_⟩,?_,fun x hx=>⟨?_,hK x hx⟩⟩
 ·have e:(⟨r,bits,st,t⟩:Smp).ls.length≤17:=by show r.length≤17;omega
  have:(⟨r,bits,st,t⟩:Smp).ls.length*(132+2*10)≤17*152:=Nat.mul_le_mul e (Nat.le_refl _);omega
 ·show r.length≤41;omega
 ·exact(qaR (qdG (q2 x hx).1).1).2.2
theorem qeL (a:Nat) (ha:a<18446744073709551616) (hn:Go.Proofs.YtdeimnnpcfncpaaGreatDoor.kindN a≠4∨a=9221120237041090561):qpe (qah a):=by
 rcases Bool.eq_false_or_eq_true (qdx a)with h|h
 ·have e:a=9221120237041090561:=by
   rcases hn with h'|h'
   ·exact absurd ((qnt a ha).2 h) h'
   ·exact h'
  subst e;exact qhm (.inl (by decide+kernel))
 ·intro w hG;refine(qmV a ha h w hG.b).mono ?_;rintro x w' ⟨rfl,hB⟩;exact⟨a,0,rfl,.inl ⟨rfl,qeR a ha (.inl h)⟩,hB⟩
theorem qeS (s:Smp) (hb:s.bits<18446744073709551616) (hr:qaW s=true):qdo (qam s)=qah s.bits:=by
 obtain⟨r1,r2,r3,r4⟩:=qaF hr;obtain⟨q1,q2,q3⟩:=(qaO _).1 r1;obtain⟨n1,n2,n3⟩:=qaR r2;obtain⟨⟨e1,e2,e3⟩,e4⟩:=qcF s.bits hb;have hnb: ∀c∈qaE s.ls qag,nb c=true:=fun c hc=>qhW (by decide) (n2 c hc)
 have htx: ∀u,tb (32::(qah s.bits++u))=qah s.bits++u:=fun u=>by
  rw[qfo 32 _ (by decide),qcu _ _ e1 e2]
 have hx123: ∀u,¬((qah s.bits++u).head?==some 123)=true:=fun u=>by
  cases hx:qah s.bits with
  |nil=>exact absurd hx e1
  |cons c t=>
   have:=e3 c (by rw[hx];exact List.mem_cons_self ..);simpa using this
 have hw:wd (qah s.bits++(if s.st then 32::Lib.itoa s.t else []))=qah s.bits:=by
  refine(qkX _ _ e2 fun c hc=>?_).1
  cases hs:s.st with
  |false=>rw[hs] at hc;cases hc
  |true=>rw[hs] at hc;cases hc;decide
 by_cases ho:s.ls.filter (fun x=>!(x.1==qag))=[]
 ·have hT:qam s=qaE s.ls qag++(32::(qah s.bits++(if s.st then 32::Lib.itoa s.t else []))):=by
   unfold qam;dsimp only;rw[ho];rfl
  obtain⟨m1,m2⟩:=qgA 58 (qaE s.ls qag) (32::(qah s.bits++(if s.st then 32::Lib.itoa s.t else []))) n2 (fun c hc=>by cases hc;decide);rw[←hT] at m1 m2;have ht:tb (qam s)=qam s:=by rw[hT];exact qcu _ _ n1 hnb
  unfold qdo;rw[ht,m2,htx,if_neg (hx123 _),qcu _ _ e1 e2,hw]
 ·have hT:qam s=qaE s.ls qag++(123::(qbj ((s.ls.filter (fun x=>!(x.1==qag))).map lbT)++125::(32::(qah s.bits++(if s.st then 32::Lib.itoa s.t else []))))):=by
   unfold qam;dsimp only;rw[if_neg ho];simp
  obtain⟨m1,m2⟩:=qgA 58 (qaE s.ls qag) (123::(qbj ((s.ls.filter (fun x=>!(x.1==qag))).map lbT)++125::(32::(qah s.bits++(if s.st then 32::Lib.itoa s.t else []))))) n2 (fun c hc=>by cases hc;decide);rw[←hT] at m1 m2;have ht:tb (qam s)=qam s:=by rw[hT];exact qcu _ _ n1 hnb
  have hg:=qgH (s.ls.filter (fun x=>!(x.1==qag))) (32::(qah s.bits++(if s.st then 32::Lib.itoa s.t else []))) ho
   (fun x hx=>qdG (q2 x (List.mem_filter.1 hx).1).1) (fun x hx=>by have:=(List.mem_filter.1 hx).2;simpa using this) (qcG _ (q3.filter _))
  unfold qdo;rw[ht,m2,qb5 123 _ (by decide),if_pos (by rfl),List.tail_cons,hg];show wd (tb (32::_))=_;rw[htx,hw]
theorem qku (s:Smp) (hb:s.bits<18446744073709551616) (h0: -9223372036854775808≤s.t) (h1:s.t≤9223372036854775807) (hr:qaW s=true) (w:World) (hG:EGlb w) (hl:(qam s).length≤65536):
 Calls Tryz.prog 27 #[.string (BS (qam s))] w fun r w'=>
 (∃a c,r= .returned (.tuple #[.agg #[.slice a s.ls.length c,.int .u64 (s.bits:Int),.bool s.st,.int .i64 s.t],.int .i64 0])∧qaH w' (.slice a s.ls.length c) s.ls)∧Below w.heap.size w w':=by
 obtain⟨r1,r2,r3,r4⟩:=qaF hr;have hh:=qgG s hb h0 h1 hr hl;refine(qcW (qam s) (by omega) (fun _=>by rw[qeS s hb hr];exact qeL _ hb r3) w hG).mono ?_;rintro r w' ⟨v,rfl,⟨lv,hv,ho⟩,hb⟩;rw[hh] at hv ho⊢;obtain⟨a,c,rfl⟩:=qac ho;exact⟨⟨a,c,by rw[hv],qaH.of_owned ho⟩,hb⟩
end Go.Proofs.YtdeimnnpcfncpaaGreatDoor.X
