/- Parts of the proof: U0 U1 UB. -/
import Derived.Lib.ReplaceLaws
import Derived.Test.YtdeimnnpcfncpaaGreatDoorCT43
import Derived.Test.YtdeimnnpcfncpaaGreatDoorCT44
set_option linter.unusedVariables false
set_option linter.unusedSimpArgs false
set_option maxRecDepth 100000
set_option maxHeartbeats 64000000
namespace Go.Proofs.YtdeimnnpcfncpaaGreatDoor.X
open Go Go.RowKit
abbrev En:=Bool×Lb
def qcE (t:List UInt8):List UInt8:=t.flatMap (fun c=>if c=10 then [92,110] else [c])
def qax (e:En):List UInt8:=
 if e.1 then [35,32,84,89,80,69,32]++(e.2.1++(9::e.2.2)) else [32,35,72,69,76,80,32]++(e.2.1++(32::32::qcE e.2.2))
def qmT (e:En):Prop:=qai 58 e.2.1=true∧(if e.1 then qaD.contains e.2.2=true else ((L.ck (BS e.2.2)).2==0)=true∧(∀c∈e.2.2,c≠92)∧tb e.2.2=e.2.2)
def qje (b:Bdy) (e:En):Bool:=if e.1 then qa6 b.t e.2.1 else qa6 b.h e.2.1
def qfB (b:Bdy) (e:En):Bdy:=if e.1 then {b with t:=b.t++[e.2]} else {b with h:=b.h++[e.2]}
def qcv:Nat→Bdy→List En→Nat
 |_,_,[]=>0
 |n,b,e::t=>if qje b e=true then n+1 else qcv (n+1) (qfB b e) t
theorem qev {n:List UInt8} (h:qai 58 n=true):n≠[]∧ ∀c∈n,nb c=true:=by
 obtain⟨h1,h2,_⟩:=qcj h;exact⟨h1,fun c hc=>qpD (by decide) (h2 c hc)⟩
theorem ql2 {k:List UInt8} (h:qaD.contains k=true):k≠[]∧ ∀c∈k,nb c=true:=by
 have:k∈qaD:=by simpa using h
 have hall: ∀k∈qaD,k≠[]∧ ∀c∈k,nb c=true:=by decide
 exact hall k this
theorem qlO {k:List UInt8} (h:qaD.contains k=true): ∀c∈k,c≠10:=by
 have:k∈qaD:=by simpa using h
 have hall: ∀k∈qaD,∀c∈k,c≠10:=by decide
 exact hall k this
theorem qp9 (a:List UInt8) (h: ∀c∈a,nb c=true):wd a=a∧wr a=[]:=by
 have:=qfA a [] h (fun c hc=>by cases hc);rwa[List.append_nil] at this
theorem qjv (n r:List UInt8) (hn:n≠[]∧ ∀c∈n,nb c=true):qaO ([35,32,84,89,80,69,32]++(n++r))=n++r∧kindN ([35,32,84,89,80,69,32]++(n++r))=3:=by
 have e1:tb ([35,32,84,89,80,69,32]++(n++r))=[35,32,84,89,80,69,32]++(n++r):=qbc 35 _ (by decide)
 have e2:tb ([32,84,89,80,69,32]++(n++r))=[84,89,80,69]++(32::(n++r)):=by
  show tb (32::(84::([89,80,69,32]++(n++r))))=_;rw[qaR 32 _ (by decide),qbc 84 _ (by decide)];rfl
 have e3:=qfA [84,89,80,69] (32::(n++r)) (by decide) (fun c hc=>by cases hc;decide);have e4:tb (32::(n++r))=n++r:=by rw[qaR 32 _ (by decide),qjN n r hn.1 hn.2]
 have ht:([35,32,84,89,80,69,32]++(n++r):List UInt8).tail=[32,84,89,80,69,32]++(n++r):=rfl;constructor
 ·unfold qaO;rw[e1,if_pos (by rfl),ht,e2,e3.2,e4]
 ·unfold kindN;rw[e1,if_neg (by simp),if_pos (by rfl),ht,e2,e3.1,if_neg (by decide),if_pos (by decide)]
theorem qkd (n r:List UInt8) (hn:n≠[]∧ ∀c∈n,nb c=true):qaO ([32,35,72,69,76,80,32]++(n++r))=n++r∧kindN ([32,35,72,69,76,80,32]++(n++r))=2:=by
 have e1:tb ([32,35,72,69,76,80,32]++(n++r))=[35,72,69,76,80,32]++(n++r):=by
  show tb (32::(35::([72,69,76,80,32]++(n++r))))=_;rw[qaR 32 _ (by decide),qbc 35 _ (by decide)];rfl
 have e2:tb ([72,69,76,80,32]++(n++r))=[72,69,76,80]++(32::(n++r)):=qbc 72 _ (by decide);have e3:=qfA [72,69,76,80] (32::(n++r)) (by decide) (fun c hc=>by cases hc;decide);have e4:tb (32::(n++r))=n++r:=by rw[qaR 32 _ (by decide),qjN n r hn.1 hn.2]
 have ht:([35,72,69,76,80,32]++(n++r):List UInt8).tail=[72,69,76,80,32]++(n++r):=rfl;constructor
 ·unfold qaO;rw[e1,if_pos (by rfl),ht,e2,e3.2,e4]
 ·unfold kindN;rw[e1,if_neg (by simp),if_pos (by rfl),ht,e2,e3.1,if_pos (by decide)]
theorem qjS (c:UInt8) (t:List UInt8) (h1:c≠10) (h2:c≠92):rdh (c::t)=qaV [c] (rdh t):=by
 cases t with
 |nil=>simp[rdh,h1,h2,qaV]
 |cons x t=>rw[rdh,if_neg h1,if_neg h2]
theorem qhi: ∀t:List UInt8,(∀c∈t,c≠92)→rdh (qcE t)=(0,t)
 | [],_=>rfl
 |c::t,h=>by
  have ih:=qhi t (fun x hx=>h x (List.mem_cons_of_mem _ hx))
  by_cases hc:c=10
  ·subst hc;show rdh (92::110::qcE t)=_;rw[rdh,if_neg (by decide),if_pos rfl,if_neg (by decide),ih];rfl
  ·have:qcE (c::t)=c::qcE t:=by unfold qcE;rw[List.flatMap_cons,if_neg hc];rfl
   rw[this,qjS c _ hc (h c (List.mem_cons_self ..)),ih];rfl
theorem qoL (t:List UInt8) (h:tb t=t):tb (qcE t)=qcE t:=by
 cases t with
 |nil=>rfl
 |cons c t=>
  have hc:nb c=true:=by
   cases hn:nb c with
   |true=>rfl
   |false=>
    rw[qaR c t hn] at h;have:=qaC t;rw[h,List.length_cons] at this;omega
  by_cases h10:c=10
  ·subst h10;exact qbc 92 _ (by decide)
  ·have:qcE (c::t)=c::qcE t:=by unfold qcE;rw[List.flatMap_cons,if_neg h10];rfl
   rw[this,qbc c _ hc]
theorem qko (n k:List UInt8) (hn:qai 58 n=true) (hk:qaD.contains k=true):qcf (qax (true,(n,k)))=(0,(n,k))∧kindN (qax (true,(n,k)))=3:=by
 obtain⟨h1,h2⟩:=qjv n (9::k) (qev hn);have hk2:=ql2 hk;have e1:=qfA n (9::k) (qev hn).2 (fun c hc=>by cases hc;decide)
 have e2:tb (9::k)=k:=by
  rw[qaR 9 _ (by decide)];have:=qjN k [] hk2.1 hk2.2;rwa[List.append_nil] at this
 have e3:=qp9 k hk2.2;refine⟨?_,h2⟩;show qcf ([35,32,84,89,80,69,32]++(n++(9::k)))=_;unfold qcf;rw[h1,e1.1,e1.2,e2,e3.1,e3.2];rw[if_pos ⟨hn,hk,rfl⟩]
theorem qi1 (n t:List UInt8) (hn:qai 58 n=true) (h1:((L.ck (BS t)).2==0)=true) (h2: ∀c∈t,c≠92) (h3:tb t=t):qci (qax (false,(n,t)))=(0,(n,t))∧kindN (qax (false,(n,t)))=2:=by
 obtain⟨k1,k2⟩:=qkd n (32::32::qcE t) (qev hn);have e1:=qfA n (32::32::qcE t) (qev hn).2 (fun c hc=>by cases hc;decide)
 have e2:tb (32::32::qcE t)=qcE t:=by
  rw[qaR 32 _ (by decide),qaR 32 _ (by decide),qoL t h3]
 refine⟨?_,k2⟩;show qci ([32,35,72,69,76,80,32]++(n++(32::32::qcE t)))=_;unfold qci;rw[k1,e1.1,e1.2,e2,qhi t h2];rw[if_pos ⟨hn,rfl,h1⟩]
theorem qmD (b:Bdy) (e:En) (h:qmT e):qbL b (qax e)=(if qje b e=true then 238 else 0,qfB b e):=by
 obtain⟨k,n,v⟩:=e;obtain⟨h1,h2⟩:=h
 cases k with
 |true=>
  obtain⟨t1,t2⟩:=qko n v h1 h2;unfold qbL;rw[t2];simp only[t1,true_and];rfl
 |false=>
  obtain⟨t1,t2⟩:=qi1 n v h1 h2.1 h2.2.1 h2.2.2;unfold qbL;rw[t2];simp only[t1,true_and];rfl
theorem qdx: ∀(es:List En) (n:Nat) (b:Bdy),(∀e∈es,qmT e)→qaE n (es.map qax) b=if qcv n b es=0 then (0,0,es.foldl qfB b) else (238,((qcv n b es:Nat):Int),qcC)
 | [],n,b,_=>by rw[List.map_nil,qaE,qcv];rfl
 |e::t,n,b,h=>by
  have ha:=qmD b e (h e (List.mem_cons_self ..));rw[List.map_cons,qaE,ha,qcv]
  cases hd:qje b e with
  |true=>
   simp only[if_true];rw[if_neg (by decide),if_neg (by omega)]
  |false=>
   simp only[Bool.false_eq_true,if_false,if_true];rw[qdx t (n+1) (qfB b e) (fun x hx=>h x (List.mem_cons_of_mem _ hx)),List.foldl_cons]
def qfE (ls:List (List UInt8)):List UInt8:=ls.flatMap (fun l=>l++[10])
theorem qcD: ∀ls:List (List UInt8),(∀l∈ls,∀c∈l,c≠10)→L.linesL (qfE ls)=ls
 | [],_=>L.linesL_nil
 |l::t,h=>by
  have ht:=qcD t (fun x hx=>h x (List.mem_cons_of_mem _ hx));have hl:=h l (List.mem_cons_self ..);have e:qfE (l::t)=l++(10::qfE t):=by simp[qfE]
  have hp: ∀a∈l,(a !=10)=true:=fun a ha=>by simpa using hl a ha
  rw[e,L.linesL_cons _ (by simp),List.takeWhile_append_of_pos hp,List.dropWhile_append_of_pos hp];simp[ht]
theorem qpr (t:List UInt8): ∀c∈qcE t,c≠10:=by
 intro c hc;unfold qcE at hc;rw[List.mem_flatMap] at hc;obtain⟨x,_,hx⟩:=hc
 split at hx
 ·simp at hx;rcases hx with rfl|rfl<;>decide
 ·rename_i hn
  rw[List.mem_singleton] at hx;rw[hx];exact hn
theorem qns {n:List UInt8} (h:qai 58 n=true): ∀c∈n,c≠10:=by
 intro c hc e;subst e;have:=(qcj h).2.1 10 hc;revert this;decide
theorem qke (e:En) (h:qmT e): ∀c∈qax e,c≠10:=by
 obtain⟨k,n,v⟩:=e;obtain⟨h1,h2⟩:=h;have hn:=qns h1;intro c hc
 cases k with
 |true=>
  have hk:=qlO h2;have hc':c∈([35,32,84,89,80,69,32]:List UInt8)++(n++(9::v)):=hc;rcases List.mem_append.1 hc' with h|h
  ·have hall: ∀c∈([35,32,84,89,80,69,32]:List UInt8),c≠10:=by decide
   exact hall c h
  ·rcases List.mem_append.1 h with h|h
   ·exact hn c h
   ·rcases List.mem_cons.1 h with h|h
    ·rw[h];decide
    ·exact hk c h
 |false=>
  have hk:=qpr v;have hc':c∈([32,35,72,69,76,80,32]:List UInt8)++(n++(32::32::qcE v)):=hc;rcases List.mem_append.1 hc' with h|h
  ·have hall: ∀c∈([32,35,72,69,76,80,32]:List UInt8),c≠10:=by decide
   exact hall c h
  ·rcases List.mem_append.1 h with h|h
   ·exact hn c h
   ·rcases List.mem_cons.1 h with h|h
    ·rw[h];decide
    ·rcases List.mem_cons.1 h with h|h
     ·rw[h];decide
     ·exact hk c h
theorem qf8 (es:List En) (h: ∀e∈es,qmT e):qaE 0 (L.linesL (qfE (es.map qax))) qcC=if qcv 0 qcC es=0 then (0,0,es.foldl qfB qcC) else (238,((qcv 0 qcC es:Nat):Int),qcC):=by
 rw[qcD,qdx es 0 qcC h];intro l hl;obtain⟨e,he,rfl⟩:=List.mem_map.1 hl;exact qke e (h e he)
theorem qdo (a:UInt8) (new:List UInt8) (s:List UInt8) (h:a∉s):s.flatMap (fun c=>if c=a then new else [c])=s:=by
 induction s with
 |nil=>rfl
 |cons c t ih=>
  rw[List.flatMap_cons,ih (fun hm=>h (List.mem_cons_of_mem _ hm)),if_neg (show¬c=a from fun e=>h (e▸List.mem_cons_self ..))];rfl
theorem qhI (a:UInt8) (new:List UInt8): ∀(k:Nat) (s:List UInt8),s.count a≤k→Lib.replaceK [a] new k s=s.flatMap (fun c=>if c=a then new else [c]):=by
 intro k
 induction k with
 |zero=>
  intro s h;rw[Lib.replaceK,qdo a new s (List.count_eq_zero.1 (by omega))]
 |succ k ih=>
  intro s h;have hi:=index_one s a
  by_cases hm:a∈s
  ·rw[if_pos hm] at hi;obtain⟨p,t,rfl,hp⟩:=List.eq_append_cons_of_mem hm
   have htw:(p++a::t).takeWhile (·!=a)=p:=by
    rw[List.takeWhile_append_of_pos (fun x hx=>by simpa using fun e:x=a=>hp (e▸hx))];simp
   rw[htw] at hi
   have hc:t.count a≤k:=by
    rw[List.count_append,List.count_cons_self] at h;omega
   rw[Lib.replaceK_hit [a] new k _ _ hi,List.take_left,List.flatMap_append,List.flatMap_cons,qdo a new p hp,if_pos rfl,←ih t hc,List.append_assoc]
   congr 3
   show(p++a::t).drop (p.length+1)=t;rw[←List.drop_drop,List.drop_left];rfl
  ·rw[if_neg hm] at hi;rw[Lib.replaceK,if_pos (by rw[hi];rfl),qdo a new s hm]
theorem qkl (a:UInt8) (new s:List UInt8) (hn:[a]≠new):Lib.replaceAll s [a] new=s.flatMap (fun c=>if c=a then new else [c]):=by
 unfold Lib.replaceAll Lib.replace;rw[if_neg (by simpa using hn)];unfold Lib.replaceNum;rw[if_pos (.inl (by decide)),Lib.count_one];exact qhI a new _ s (Nat.le_refl _)
def slash (t:List UInt8):List UInt8:=t.flatMap (fun c=>if c=92 then [47] else [c])
theorem qmt (t:List UInt8): ∀c∈slash t,c≠92:=by
 intro c hc;unfold slash at hc;rw[List.mem_flatMap] at hc;obtain⟨x,_,hx⟩:=hc
 split at hx
 ·rw[List.mem_singleton] at hx;rw[hx];decide
 ·rename_i hn
  rw[List.mem_singleton] at hx;rw[hx];exact hn
theorem qiS (t:List UInt8):(slash t).length=t.length:=by
 induction t with
 |nil=>rfl
 |cons c t ih=>
  have:slash (c::t)=(if c=92 then [47] else [c])++slash t:=rfl;rw[this,List.length_append,ih,List.length_cons]
  split<;>simp<;>omega
theorem qsd (l:List UInt8): ∃p:List UInt8,(∀c∈p,nb c=false)∧l=p++tb l:=by
 induction l with
 |nil=>exact⟨[],(fun c hc=>by cases hc),rfl⟩
 |cons c t ih=>
  cases hn:nb c with
  |true=>exact⟨[],(fun c hc=>by cases hc),(qbc c t hn).symm⟩
  |false=>
   obtain⟨p,h1,h2⟩:=ih;refine⟨c::p,fun x hx=>?_,?_⟩
   ·rcases List.mem_cons.1 hx with rfl|hx
    ·exact hn
    ·exact h1 x hx
   ·rw[qaR c t hn,List.cons_append,←h2]
theorem qjw: ∀l:List UInt8,L.good l→L.good (tb l)
 | [],h=>h
 |c::t,h=>by
  cases hn:nb c with
  |true=>rw[qbc c t hn];exact h
  |false=>
   rw[qaR c t hn];refine qjw t (L.good_tail h ?_)
   have h2:c=32∨c=9:=by
    by_cases h32:c=32
    ·exact .inl h32
    ·exact .inr (by have:=hn;simp[nb] at this;exact this h32)
   rcases h2 with rfl|rfl<;>decide
theorem qoa {n t:List UInt8} (hn:qai 58 n=true) (h:L.gq t):qmT (false,(n,tb t)):=by
 refine⟨hn,?_⟩;simp only[Bool.false_eq_true,if_false];refine⟨L.vld_good (BS (tb t)) ?_,fun c hc=>?_,qrY t⟩
 ·rw[show(BS (tb t)).data.toList=tb t by simp[BS]];exact qjw t h.1
 ·obtain⟨p,_,e⟩:=qsd t;exact h.2 c (by rw[e];exact List.mem_append.2 (.inr hc))
theorem qnC {n k:List UInt8} (hn:qai 58 n=true) (h:k∈qaD):qmT (true,(n,k)):=by
 refine⟨hn,?_⟩;simp only[if_true];simpa using h
def qb5:List (List UInt8):=[[97],[98],[97,58,98],[117,112],[120,49],[95],[90],[108,101]]
theorem qbO {n:List UInt8} (h:n∈qb5):qai 58 n=true∧n.length≤3:=by
 have:(qb5.all fun n=>qai 58 n&&decide (n.length≤3))=true:=by decide+kernel
 rw[List.all_eq_true] at this;have:=this n h;simpa using this
theorem qcK (e:En): ∀(es:List En) (n:Nat) (b:Bdy),qcv n b (es++[e])=if qcv n b es≠0 then qcv n b es else if qje (es.foldl qfB b) e=true then n+es.length+1 else 0
 | [],n,b=>by
   simp[qcv]<;>rfl
 |x::t,n,b=>by
  rw[List.cons_append,qcv,qcv]
  by_cases hd:qje b x=true
  ·rw[if_pos hd,if_pos hd,if_pos (by omega)]
  ·rw[if_neg hd,if_neg hd,qcK e t (n+1) (qfB b x),List.foldl_cons,List.length_cons];have:n+1+t.length+1=n+(t.length+1)+1:=by omega
   rw[this]
def NB (W:World) (N:Nat) (ts:List (List UInt8)):Prop:=W.heap[N]?=some (.cells (ts.map fun t=>Value.string (BS t)).toArray 9 (0,0))
theorem NB.lt {W:World} {N:Nat} {ts:List (List UInt8)} (h:NB W N ts):N<W.heap.size:=(Array.getElem?_eq_some_iff.1 h).1
theorem NB.on {W W':World} {N:Nat} {ts:List (List UInt8)} (h:NB W N ts) (hb:Below W.heap.size W W'):NB W' N ts:=(hb.block N h.lt).trans h
theorem NB.cell {W:World} {N:Nat} {ts:List (List UInt8)} (h:NB W N ts) (i:Nat) (hi:i<ts.length):W.cell? ⟨N,i,none⟩=some (.string (BS (ts.getD i []))):=by
 rw[Lib.cell_of_heap h];simp[List.getD_eq_getElem?_getD,List.getElem?_eq_getElem hi]
theorem NB.oth {W W':World} {N:Nat} {ts:List (List UInt8)} {T:TypeId} {b:Option Nat} (h:NB W N ts) (ho:Lib.OthersKept T b W W') (hT:T≠9) (hb:some N≠b):NB W' N ts:=
 ho N _ h hb (fun c fz e=>by cases e;exact hT rfl)
theorem qdj {W W':World} {base e k n:Nat} {v:Value} {xs:List Value} {T:TypeId} {b:Option Nat} (h:W.ownsRow base e k v n xs) (ho:Lib.OthersKept T b W W') (hT:e≠T) (hb: ∀D,b=some D→ ∃cs fz U,W.heap[D]?=some (.cells cs U fz)∧U≠e):W'.ownsRow base e k v n xs:=by
 refine⟨h.1,?_⟩;rcases h.2 with h'|⟨g,cap,cur,h1,h2,h3,h4⟩
 ·exact .inl h'
 ·refine .inr ⟨g,cap,cur,h1,h2,ho g _ h3 (fun e2=>?_) (fun c fz e2=>by cases e2;exact hT rfl),h4⟩;obtain⟨cs,fz,U,hd,hU⟩:=hb g e2.symm;rw[h3] at hd;cases hd;exact hU rfl
theorem qhl {W W':World} {base e k n:Nat} {v:Value} {xs:List Value} (h:W.ownsRow base e k v n xs) (hk: ∀row,v.ownBlock≠some row→row<W.heap.size→W'.heap[row]?=W.heap[row]?):Lib.OthersKept e none W W':=by
 intro j o hj _ ho;refine(hk j (fun e2=>?_) (Array.getElem?_eq_some_iff.1 hj).1).trans hj;rcases h.2 with ⟨rfl,_⟩|⟨g,cap,cur,rfl,_,h3,_⟩
 ·cases e2
 ·cases e2;rw[hj] at h3;cases h3;exact ho _ _ rfl
theorem qil {B b:Nat} {l:List UInt8} {W W':World} {T:TypeId} (h:L.BldK B b l W) (ho:Lib.OthersKept T none W W') (h1:T≠80) (h2:T≠5):L.BldK B b l W':=by
 have key: ∀{p:Value} {bs:List Value},Lib.BuilderAtF 80 5 B b p bs W→Lib.BuilderAtF 80 5 B b p bs W':=by
  rintro p bs ⟨hB,v,k1,hown,hne⟩;refine⟨hB,v,ho b _ k1 (by simp) (fun c fz e=>by cases e;exact h1 rfl),⟨hown.1,?_⟩,hne⟩;rcases hown.2 with k2|⟨g,cap,cur,fz,hv,hbg,hg,rest⟩
  ·exact .inl k2
  ·exact .inr ⟨g,cap,cur,fz,hv,hbg,ho g _ hg (by simp) (fun c fz e=>by cases e;exact h2 rfl),rest⟩
 rcases h with h|h
 ·exact .inl (key h)
 ·exact .inr (key h)
theorem qqC {B b:Nat} {l:List UInt8} {W:World} (h:L.BldK B b l W): ∃cs fz,W.heap[b]?=some (.cells cs 80 fz):=by
 rcases h with ⟨_,v,k1,_⟩|⟨_,v,k1,_⟩<;>exact⟨_,_,k1⟩
theorem qki (a:UInt8) (new x:List UInt8) (hn:[a]≠new) (hx:x.length≤100000) (hw:new.length≤10) (w:World) (hG:EGlb w):
 Calls Tryz.prog 24 #[.string (BS x),.string (BS [a]),.string (BS new)] w fun e w'=>e= .returned (.string (BS (x.flatMap fun c=>if c=a then new else [c])))∧Below w.heap.size w w':=by
 obtain⟨m,hm⟩:=hG.b.m;have hz:=qac x;have hd: ∀l:List UInt8,(BS l).data.toList=l:=fun l=>by simp[BS]
 have h:=Any.strings_ReplaceAll Tryz.laysM155.ton155 Tryz.Builder_Extra_M155 (BS x) (BS [a]) (BS new) m w (by omega) hm (by rw[qac];simp) (by
  show(BS x).size+Lib.count (BS x).data.toList (BS [a]).data.toList*(BS new).size≤_;rw[hd,hd,Lib.count_one,qac,qac];have h1:=List.count_le_length (a:=a) (l:=x);have h2:=Nat.mul_le_mul h1 hw
  omega)
 rw[hd,hd,hd,qkl a new x hn] at h;exact h
def qhA (t:List UInt8) (x:UInt8):En:=if x.toNat/8%2=0 then (true,(qb5.getD (x.toNat%8) [],qaD.getD (x.toNat/16%5) [])) else (false,(qb5.getD (x.toNat%8) [],t))
theorem qdX (x:UInt8):qb5.getD (x.toNat%8) []∈qb5:=by
 have h:x.toNat%8<qb5.length:=Nat.mod_lt _ (by decide);rw[List.getD_eq_getElem?_getD,List.getElem?_eq_getElem h];exact List.getElem_mem _
theorem qgk (x:UInt8):qaD.getD (x.toNat/16%5) []∈qaD:=by
 have h:x.toNat/16%5<qaD.length:=Nat.mod_lt _ (by decide);rw[List.getD_eq_getElem?_getD,List.getElem?_eq_getElem h];exact List.getElem_mem _
theorem qd9 {k:List UInt8} (h:k∈qaD):k.length≤9:=by
 have:(qaD.all fun n=>decide (n.length≤9))=true:=by decide+kernel
 rw[List.all_eq_true] at this;simpa using this k h
theorem qry {t:List UInt8} (h:L.gq t) (x:UInt8):qmT (qhA (tb t) x):=by
 unfold qhA
 split
 ·exact qnC (qbO (qdX x)).1 (qgk x)
 ·exact qoa (qbO (qdX x)).1 h
theorem qsL (x:UInt8):bits .and .u8 (x.toNat:Int) 8=((x.toNat/8%2*8:Nat):Int):=by
 have h: ∀n:Nat,n<256→bits .and .u8 (n:Int) 8=((n/8%2*8:Nat):Int):=by decide+kernel
 exact h _ x.toNat_lt
def TlP (t l:List UInt8) (i:Nat) (es:List En) (ts hs:List Lb) (acc:List UInt8) (wn:Nat):Prop:=
 es=(l.take i).map (qhA t)∧es.foldl qfB qcC=⟨[],ts,hs⟩∧acc=qfE (es.map qax)∧wn=qcv 0 qcC es
theorem TlP.start (t l:List UInt8):TlP t l 0 [] [] [] [] 0:=⟨by simp,rfl,rfl,rfl⟩
theorem TlP.len {t l:List UInt8} {i:Nat} {es:List En} {ts hs:List Lb} {acc:List UInt8} {wn:Nat} (h:TlP t l i es ts hs acc wn) (hi:i≤l.length):es.length=i:=by
 rw[h.1,List.length_map,List.length_take];omega
theorem TlP.snoc {t l:List UInt8} {i:Nat} {es:List En} {ts hs:List Lb} {acc:List UInt8} {wn:Nat} (h:TlP t l i es ts hs acc wn) (hi:i<l.length):
 (l.take (i+1)).map (qhA t)=es++[qhA t (l.getD i 0)]:=by
 rw[List.take_add_one,List.map_append,h.1,List.getElem?_eq_getElem hi,List.getD_eq_getElem?_getD,List.getElem?_eq_getElem hi];rfl
theorem TlP.type {t l:List UInt8} {i:Nat} {es:List En} {ts hs:List Lb} {acc:List UInt8} {wn:Nat} (h:TlP t l i es ts hs acc wn) (hi:i<l.length) {n k:List UInt8} (he:qhA t (l.getD i 0)=(true,(n,k))):
 TlP t l (i+1) (es++[(true,(n,k))]) (ts++[(n,k)]) hs (acc++(qax (true,(n,k))++[10])) (if wn≠0 then wn else if qa6 ts n=true then i+1 else 0):=by
 refine⟨by rw[h.snoc hi,he],?_,?_,?_⟩
 ·rw[List.foldl_append,h.2.1];rfl
 ·rw[h.2.2.1,List.map_append];simp[qfE]
 ·rw[qcK,←h.2.2.2,h.2.1,h.len (by omega)];show _=if wn≠0 then wn else if qa6 ts n=true then 0+i+1 else 0
  rw[Nat.zero_add]
theorem TlP.help {t l:List UInt8} {i:Nat} {es:List En} {ts hs:List Lb} {acc:List UInt8} {wn:Nat} (h:TlP t l i es ts hs acc wn) (hi:i<l.length) {n k:List UInt8} (he:qhA t (l.getD i 0)=(false,(n,k))):
 TlP t l (i+1) (es++[(false,(n,k))]) ts (hs++[(n,k)]) (acc++(qax (false,(n,k))++[10])) (if wn≠0 then wn else if qa6 hs n=true then i+1 else 0):=by
 refine⟨by rw[h.snoc hi,he],?_,?_,?_⟩
 ·rw[List.foldl_append,h.2.1];rfl
 ·rw[h.2.2.1,List.map_append];simp[qfE]
 ·rw[qcK,←h.2.2.2,h.2.1,h.len (by omega)];show _=if wn≠0 then wn else if qa6 hs n=true then 0+i+1 else 0
  rw[Nat.zero_add]
theorem qhq (t:List UInt8):(qcE t).length≤2*t.length:=by
 induction t with
 |nil=>simp[qcE]
 |cons c t ih=>
  have:qcE (c::t)=(if c=10 then [92,110] else [c])++qcE t:=rfl;rw[this,List.length_append,List.length_cons]
  split<;>simp<;>omega
theorem qhn (ls:List Lb) (n:List UInt8) (i:Nat) (h:i<ls.length):qa6 (ls.take (i+1)) n=(qa6 (ls.take i) n||(ls.getD i lb0).1==n):=by
 unfold qa6;rw[List.take_add_one,List.getElem?_eq_getElem h,List.any_append,List.getD_eq_getElem?_getD,List.getElem?_eq_getElem h];simp
theorem qeL (n k:List UInt8):((⟨#[35,32,84,89,80,69,32]⟩:ByteArray)++BS n++⟨#[9]⟩++BS k++⟨#[10]⟩)=BS (qax (true,(n,k))++[10]):=by
 show BS [35,32,84,89,80,69,32]++BS n++BS [9]++BS k++BS [10]=_;rw[qaL,qaL,qaL,qaL];simp[qax]
theorem qeM (n t:List UInt8):((⟨#[32,35,72,69,76,80,32]⟩:ByteArray)++BS n++⟨#[32,32]⟩++BS (qcE t)++⟨#[10]⟩)=BS (qax (false,(n,t))++[10]):=by
 show BS [32,35,72,69,76,80,32]++BS n++BS [32,32]++BS (qcE t)++BS [10]=_;rw[qaL,qaL,qaL,qaL];simp[qax]
theorem qi3 (n k:List UInt8) (h1:n.length≤3) (h2:k.length≤9):(qax (true,(n,k))++[10]).length≤220:=by
 simp[qax];omega
theorem qiC (n t:List UInt8) (h1:n.length≤3) (h2:t.length≤100):(qax (false,(n,t))++[10]).length≤220:=by
 have:=qhq t;simp[qax];omega
theorem qp5 {t:List UInt8} (h:t.length≤100) (x:UInt8):(qax (qhA t x)).length≤220:=by
 have h1:=(qbO (qdX x)).2;have h2:=qd9 (qgk x);unfold qhA
 split
 ·have:=qi3 _ _ h1 h2;rw[List.length_append] at this;omega
 ·have:=qiC _ t h1 h;rw[List.length_append] at this;omega
theorem Bd3.on {D:Nat} {a b c:Value} {W W':World} (h:Bd3 D a b c W) (hb:Below W.heap.size W W'):Bd3 D a b c W':=(hb.block D h.lt).trans h
theorem qsg:Tryz.prog.fieldsOf 88=#[{name:= "Name",type:=9,offset:=0,embedded:=false,tag:= "",pkgPath:= "",byteOffset:=0},{name:= "Kind",type:=9,offset:=1,embedded:=false,tag:= "",pkgPath:= "",byteOffset:=16}]:=by
 unfold Program.fieldsOf;rw[Tryz.underlying88]
theorem qsG:Tryz.prog.underlying 88=some (.struct (Tryz.prog.fieldsOf 88)):=by rw[qsg];exact Tryz.underlying88
theorem qsI:Tryz.prog.stoodInHeld 88=false:=by kernel_rfl
theorem qsP (s t p q:ByteArray) (w:World):(Op.equalIn 10000 88 (.agg #[.string s,.string p]) (.agg #[.string t,.string q])).run Tryz.prog w= .ok ((s.toList==t.toList)&&(p.toList==q.toList)) w:=by
 rw[show(10000:Nat)=9999+1 from rfl,run_equalIn_struct w 9999 88 _ _ qsG qsI,qsg];have h9:=Tryz.underlying9;have ps:(part 9 #[.string s,.string p] 0).run Tryz.prog w= .ok (.string s) w:=by simp[part,isAgg,run_underlying h9]
 have pt:(part 9 #[.string t,.string q] 0).run Tryz.prog w= .ok (.string t) w:=by simp[part,isAgg,run_underlying h9]
 have pp:(part 9 #[.string s,.string p] 1).run Tryz.prog w= .ok (.string p) w:=by simp[part,isAgg,run_underlying h9]
 have pq:(part 9 #[.string t,.string q] 1).run Tryz.prog w= .ok (.string q) w:=by simp[part,isAgg,run_underlying h9]
 have e1:=run_equalIn_string (P:=Tryz.prog) w 9998 9 s t h9;have e2:=run_equalIn_string (P:=Tryz.prog) w 9998 9 p q h9;have hn1:("Name" :String)≠ "_" :=by decide
 have hn2:("Kind" :String)≠ "_" :=by decide
 simp only[Op.eqFields,ne_eq,hn1,hn2,not_false_eq_true,if_true,Sem.run_bind,ps,pt,pp,pq,Result.andThen_ok,e1,e2,Sem.run_ite,Sem.run_pure];cases (s.toList==t.toList)<;>cases (p.toList==q.toList)<;>rfl
theorem qr0 (x:Lb) (w:World):(Op.equalIn 10000 88 (.agg #[.string (BS x.1),.string (BS x.2)]) (.agg #[.string (BS x.1),.string (BS x.2)])).run Tryz.prog w= .ok true w:=by
 rw[qsP];simp
theorem qrK (x:Lb) (w:World):(Op.equalIn 10000 90 (.agg #[.string (BS x.1),.string (BS x.2)]) (.agg #[.string (BS x.1),.string (BS x.2)])).run Tryz.prog w= .ok true w:=by
 rw[qsn];simp
structure TlI (w:World) (N D:Nat) (ts hs:List Lb) (acc:List UInt8) (tv hv:Value) (W:World):Prop where
 b:Below w.heap.size w W
 n0:NB W N qb5
 n1:NB W (N+1) qaD
 d:L.BldK w.heap.size D acc W
 t:W.ownsRow w.heap.size 88 2 tv ts.length (qaa ts)
 h:W.ownsRow w.heap.size 90 2 hv hs.length (qaa hs)
section
variable {w:World} {N D:Nat} {ts hs:List Lb} {acc:List UInt8} {tv hv:Value} {W W':World}
theorem TlI.on (I:TlI w N D ts hs acc tv hv W) (hb:Below W.heap.size W W'):TlI w N D ts hs acc tv hv W':=
 ⟨I.b.trans (hb.mono I.b.size),I.n0.on hb,I.n1.on hb,L.bld_below I.d hb,qaf I.t hb,qaf I.h hb⟩
theorem TlI.write (I:TlI w N D ts hs acc tv hv W) {acc':List UInt8} (hd:L.BldK w.heap.size D acc' W') (hb:Below w.heap.size W W') (ho:Lib.OthersKept 5 (some D) W W'):TlI w N D ts hs acc' tv hv W':=by
 obtain⟨cs,fz,hD⟩:=qqC I.d
 have hn: ∀{N:Nat} {ts:List (List UInt8)},NB W N ts→some N≠some D:=fun h e=>by
  cases e;have:=h.symm.trans hD;cases this
 exact⟨I.b.trans hb,I.n0.oth ho (by decide) (hn I.n0),I.n1.oth ho (by decide) (hn I.n1),hd,
  qdj I.t ho (by decide) (fun E e=>by cases e;exact⟨cs,fz,80,hD,by decide⟩),qdj I.h ho (by decide) (fun E e=>by cases e;exact⟨cs,fz,80,hD,by decide⟩)⟩
theorem TlI.appT (I:TlI w N D ts hs acc tv hv W) {x:Lb} {v2:Value} (hown:W'.ownsRow w.heap.size 88 2 v2 (ts.length+1) (qaa ts++qa9 x)) (hb:Below w.heap.size W W') (hk: ∀row,tv.ownBlock≠some row→row<W.heap.size→W'.heap[row]?=W.heap[row]?):TlI w N D (ts++[x]) hs acc v2 hv W':=by
 have ho:=qhl I.t hk;refine⟨I.b.trans hb,I.n0.oth ho (by decide) (by simp),I.n1.oth ho (by decide) (by simp),qil I.d ho (by decide) (by decide),?_,qdj I.h ho (by decide) (fun E e=>by cases e)⟩;rw[List.length_append,show qaa (ts++[x])=qaa ts++qa9 x by simp[qaa]];exact hown
theorem TlI.appH (I:TlI w N D ts hs acc tv hv W) {x:Lb} {v2:Value} (hown:W'.ownsRow w.heap.size 90 2 v2 (hs.length+1) (qaa hs++qa9 x)) (hb:Below w.heap.size W W') (hk: ∀row,hv.ownBlock≠some row→row<W.heap.size→W'.heap[row]?=W.heap[row]?):TlI w N D ts (hs++[x]) acc tv v2 W':=by
 have ho:=qhl I.h hk;refine⟨I.b.trans hb,I.n0.oth ho (by decide) (by simp),I.n1.oth ho (by decide) (by simp),qil I.d ho (by decide) (by decide),qdj I.t ho (by decide) (fun E e=>by cases e),?_⟩;rw[List.length_append,show qaa (hs++[x])=qaa hs++qa9 x by simp[qaa]];exact hown
end
theorem qpf (w w4:World) (h:Below w.heap.size w w4): ∃W0,W0=((w4.alloc (.cells #[.string ⟨#[97]⟩,.string ⟨#[98]⟩,.string ⟨#[97,58,98]⟩,.string ⟨#[117,112]⟩,.string ⟨#[120,49]⟩,.string ⟨#[95]⟩,.string ⟨#[90]⟩,.string ⟨#[108,101]⟩] 9)).alloc (.cells #[.string ⟨#[99,111,117,110,116,101,114]⟩,.string ⟨#[103,97,117,103,101]⟩,.string ⟨#[104,105,115,116,111,103,114,97,109]⟩,.string ⟨#[115,117,109,109,97,114,121]⟩,.string ⟨#[117,110,116,121,112,101,100]⟩] 9)).alloc (.cells #[.pointer none,.slice none 0 0] 80)∧TlI w w4.heap.size (w4.heap.size+1+1) [] [] [] (.slice none 0 0) (.slice none 0 0) W0:=by
 refine⟨_,rfl,?_⟩;have A1:=World.alloc_heap_new w4 (.cells #[.string ⟨#[97]⟩,.string ⟨#[98]⟩,.string ⟨#[97,58,98]⟩,.string ⟨#[117,112]⟩,.string ⟨#[120,49]⟩,.string ⟨#[95]⟩,.string ⟨#[90]⟩,.string ⟨#[108,101]⟩] 9);have S1:=World.size_alloc w4 (.cells #[.string ⟨#[97]⟩,.string ⟨#[98]⟩,.string ⟨#[97,58,98]⟩,.string ⟨#[117,112]⟩,.string ⟨#[120,49]⟩,.string ⟨#[95]⟩,.string ⟨#[90]⟩,.string ⟨#[108,101]⟩] 9);have B1:Below w.heap.size w (w4.alloc (.cells #[.string ⟨#[97]⟩,.string ⟨#[98]⟩,.string ⟨#[97,58,98]⟩,.string ⟨#[117,112]⟩,.string ⟨#[120,49]⟩,.string ⟨#[95]⟩,.string ⟨#[90]⟩,.string ⟨#[108,101]⟩] 9)):=h.alloc h.size _;generalize w4.alloc (.cells #[.string ⟨#[97]⟩,.string ⟨#[98]⟩,.string ⟨#[97,58,98]⟩,.string ⟨#[117,112]⟩,.string ⟨#[120,49]⟩,.string ⟨#[95]⟩,.string ⟨#[90]⟩,.string ⟨#[108,101]⟩] 9)=w5 at*;have A2:=World.alloc_heap_new w5 (.cells #[.string ⟨#[99,111,117,110,116,101,114]⟩,.string ⟨#[103,97,117,103,101]⟩,.string ⟨#[104,105,115,116,111,103,114,97,109]⟩,.string ⟨#[115,117,109,109,97,114,121]⟩,.string ⟨#[117,110,116,121,112,101,100]⟩] 9);have S2:=World.size_alloc w5 (.cells #[.string ⟨#[99,111,117,110,116,101,114]⟩,.string ⟨#[103,97,117,103,101]⟩,.string ⟨#[104,105,115,116,111,103,114,97,109]⟩,.string ⟨#[115,117,109,109,97,114,121]⟩,.string ⟨#[117,110,116,121,112,101,100]⟩] 9);have B2:Below w5.heap.size w5 (w5.alloc (.cells #[.string ⟨#[99,111,117,110,116,101,114]⟩,.string ⟨#[103,97,117,103,101]⟩,.string ⟨#[104,105,115,116,111,103,114,97,109]⟩,.string ⟨#[115,117,109,109,97,114,121]⟩,.string ⟨#[117,110,116,121,112,101,100]⟩] 9)):=(Below.refl _ _).alloc (Nat.le_refl _) _;generalize w5.alloc (.cells #[.string ⟨#[99,111,117,110,116,101,114]⟩,.string ⟨#[103,97,117,103,101]⟩,.string ⟨#[104,105,115,116,111,103,114,97,109]⟩,.string ⟨#[115,117,109,109,97,114,121]⟩,.string ⟨#[117,110,116,121,112,101,100]⟩] 9)=w6 at*;have B3:Below w6.heap.size w6 (w6.alloc (.cells #[.pointer none,.slice none 0 0] 80)):=(Below.refl _ _).alloc (Nat.le_refl _) _;have hb3:=B1.trans (B2.mono B1.size);have hb4:=hb3.trans (B3.mono hb3.size);have n0:NB w5 w4.heap.size qb5:=A1;have n1:NB w6 (w4.heap.size+1) qaD:=by rw[←S1];exact A2
 refine⟨hb4,(n0.on B2).on B3,n1.on B3,?_,⟨rfl,.inl ⟨rfl,rfl⟩⟩,⟨rfl,.inl ⟨rfl,rfl⟩⟩⟩;rw[←S1,←S2];exact L.bld_new w6 w.heap.size hb3.size
end Go.Proofs.YtdeimnnpcfncpaaGreatDoor.X
