/- Parts of the proof: B0 B1 E0 E1 E2 E3 NF. -/
import Derived.Laws.ResultCell
import Derived.Test.YtdeimnnpcfncpaaGreatDoorCX31
import Derived.Test.YtdeimnnpcfncpaaGreatDoorCX33
set_option linter.unusedVariables false
set_option linter.unusedSimpArgs false
set_option maxRecDepth 100000
set_option maxHeartbeats 64000000
section
namespace Go.Proofs.YtdeimnnpcfncpaaGreatDoor.X
open Go Go.RowKit
theorem qhX (a b:List UInt8):a<b∨a=b∨b<a:=by
 by_cases h:a<b
 ·exact .inl h
 ·by_cases k:b<a
  ·exact .inr (.inr k)
  ·exact .inr (.inl (qqH h k))
def qbC:List Lb→Int
 | []=>0
 |x::t=>if qck x=0 then qbC t else qck x
def qo6 (x:Lb):List Lb→List Lb
 | []=>[x]
 |y::t=>if y.1<x.1 then y::qo6 x t else x::y::t
def srt (ls:List Lb):List Lb:=ls.foldr qo6 []
def qa4:List Lb→Bool
 | []=>false
 |x::t=>qcU t x.1||qa4 t
def ofF (ls:List Lb):Int×List Lb:=
 if qbC ls=0 then
  if qa4 ls=true then (43,[])
  else if 64<((srt ls).filter (fun x=>!emp x)).length then (5,[]) else (0,(srt ls).filter (fun x=>!emp x))
 else (qbC ls,[])
theorem qf1 (ls:List Lb) (n:List UInt8):qcU ls n=true↔ ∃x∈ls,x.1=n:=by
 unfold qcU;rw[List.any_eq_true];simp
theorem qbr (ls:List Lb):qa4 ls=false↔(ls.map Prod.fst).Nodup:=by
 induction ls with
 |nil=>simp[qa4]
 |cons x t ih=>
  rw[List.map_cons,List.nodup_cons,←ih,qa4,Bool.or_eq_false_iff]
  have:qcU t x.1=false↔x.1∉t.map Prod.fst:=by
   rw[←Bool.not_eq_true,qf1,List.mem_map]
  rw[this]
def Inc (ls:List Lb):Prop:=ls.Pairwise (fun x y=>x.1<y.1)
theorem qpi: ∀a b:List Lb,Inc a→Inc b→(∀x,x∈a↔x∈b)→a=b
 | [],[],_,_,_=>rfl
 | [],y::t,_,_,h=>by have:=(h y).2 (List.mem_cons_self ..);cases this
 |x::s,[],_,_,h=>by have:=(h x).1 (List.mem_cons_self ..);cases this
 |x::s,y::t,ha,hb,h=>by
  obtain⟨a1,a2⟩:=List.pairwise_cons.1 ha;obtain⟨b1,b2⟩:=List.pairwise_cons.1 hb
  have e:x=y:=by
   rcases List.mem_cons.1 ((h x).1 (List.mem_cons_self ..))with e|e
   ·exact e
   ·rcases List.mem_cons.1 ((h y).2 (List.mem_cons_self ..))with e2|e2
    ·exact e2.symm
    ·exact absurd (qiZ (b1 x e) (a1 y e2)) (qdw _)
  subst e;refine congrArg (x:: ·) (qpi s t a2 b2 fun z=>⟨fun hz=>?_,fun hz=>?_⟩)
  ·rcases List.mem_cons.1 ((h z).1 (List.mem_cons_of_mem _ hz))with e|e
   ·subst e;exact absurd (a1 z hz) (qdw _)
   ·exact e
  ·rcases List.mem_cons.1 ((h z).2 (List.mem_cons_of_mem _ hz))with e|e
   ·subst e;exact absurd (b1 z hz) (qdw _)
   ·exact e
theorem qlh (x z:Lb) (ls:List Lb):z∈qo6 x ls↔z=x∨z∈ls:=by
 induction ls with
 |nil=>simp[qo6]
 |cons y t ih=>
  rw[qo6]
  split
  ·rw[List.mem_cons,ih,List.mem_cons];constructor
   ·intro h;rcases h with h|h|h
    ·exact .inr (.inl h)
    ·exact .inl h
    ·exact .inr (.inr h)
   ·intro h;rcases h with h|h|h
    ·exact .inr (.inl h)
    ·exact .inl h
    ·exact .inr (.inr h)
  ·rw[List.mem_cons]
theorem qj5 (ls:List Lb) (z:Lb):z∈srt ls↔z∈ls:=by
 induction ls with
 |nil=>simp[srt]
 |cons x t ih=>
  show z∈qo6 x (srt t)↔_;rw[qlh,ih,List.mem_cons]
theorem qpB (x:Lb) (ls:List Lb) (h:Inc ls) (hn: ∀y∈ls,y.1≠x.1):Inc (qo6 x ls):=by
 induction ls with
 |nil=>exact List.pairwise_singleton _ _
 |cons y t ih=>
  obtain⟨h1,h2⟩:=List.pairwise_cons.1 h;rw[qo6]
  split
  ·rename_i g
   refine List.pairwise_cons.2 ⟨fun z hz=>?_,ih h2 (fun z hz=>hn z (List.mem_cons_of_mem _ hz))⟩;rcases(qlh x z t).1 hz with rfl|hz
   ·exact g
   ·exact h1 z hz
  ·rename_i g
   have hxy:x.1<y.1:=by
    rcases qhX x.1 y.1 with g2|g2|g2
    ·exact g2
    ·exact absurd g2.symm (hn y (List.mem_cons_self ..))
    ·exact absurd g2 g
   refine List.pairwise_cons.2 ⟨fun z hz=>?_,h⟩;rcases List.mem_cons.1 hz with rfl|hz
   ·exact hxy
   ·exact qiZ hxy (h1 z hz)
theorem qrd (ls:List Lb) (h:qa4 ls=false):Inc (srt ls):=by
 induction ls with
 |nil=>exact List.Pairwise.nil
 |cons x t ih=>
  rw[qa4,Bool.or_eq_false_iff] at h;refine qpB x _ (ih h.2) fun y hy e=>?_
  have:=(qf1 t x.1).2 ⟨y,(qj5 t y).1 hy,e⟩;rw[h.1] at this;cases this
def qf8:List Lb→Bool
 | []=>false
 | [_]=>false
 |x::y::t=>(x.1==y.1)||qf8 (y::t)
def qts (ls:List Lb):Prop:=ls.Pairwise (fun x y=> ¬y.1<x.1)
theorem qq9 (ls:List Lb) (h:qt2 ls):qts ls:=by
 unfold qts;rw[List.pairwise_iff_getElem];intro i j hi hj hij;have:=h i j hij hj;rw[List.getD_eq_getElem?_getD,List.getElem?_eq_getElem hj,List.getD_eq_getElem?_getD,List.getElem?_eq_getElem hi] at this;exact this
theorem qlX: ∀ls:List Lb,qts ls→qf8 ls=false→Inc ls
 | [],_,_=>List.Pairwise.nil
 | [x],_,_=>List.pairwise_singleton _ _
 |x::y::t,h,ha=>by
  rw[qf8,Bool.or_eq_false_iff] at ha;obtain⟨h1,h2⟩:=List.pairwise_cons.1 h;have ih:=qlX (y::t) h2 ha.2
  have hxy:x.1<y.1:=by
   rcases qhX x.1 y.1 with g2|g2|g2
   ·exact g2
   ·exact absurd g2 (by simpa using ha.1)
   ·exact absurd g2 (h1 y (List.mem_cons_self ..))
  refine List.pairwise_cons.2 ⟨fun z hz=>?_,ih⟩;rcases List.mem_cons.1 hz with rfl|hz
  ·exact hxy
  ·exact qiZ hxy ((List.pairwise_cons.1 ih).1 z hz)
theorem qkH (ls:List Lb) (h:Inc ls):qa4 ls=false:=by
 induction ls with
 |nil=>rfl
 |cons x t ih=>
  obtain⟨h1,h2⟩:=List.pairwise_cons.1 h;rw[qa4,ih h2,Bool.or_false,←Bool.not_eq_true,qf1];rintro⟨y,hy,e⟩;have:=h1 y hy;rw[e] at this;exact qdw _ this
theorem qlI: ∀ls:List Lb,Inc ls→qf8 ls=false
 | [],_=>rfl
 | [x],_=>rfl
 |x::y::t,h=>by
  obtain⟨h1,h2⟩:=List.pairwise_cons.1 h;rw[qf8,qlI (y::t) h2,Bool.or_false,beq_eq_false_iff_ne];intro e;have:=h1 y (List.mem_cons_self ..);rw[e] at this;exact qdw _ this
theorem qe6 {a b:List Lb} (h:a.Perm b):qa4 a=qa4 b:=by
 have:=(h.map Prod.fst).nodup_iff
 cases ha:qa4 a with
 |false=>exact((qbr b).2 (this.1 ((qbr a).1 ha))).symm
 |true=>
  cases hb:qa4 b with
  |true=>rfl
  |false=>rw[(qbr a).2 (this.2 ((qbr b).1 hb))] at ha;cases ha
theorem qlG {ls ls':List Lb} (hp:ls'.Perm ls) (hs:qt2 ls'):qf8 ls'=qa4 ls∧(qf8 ls'=false→ls'=srt ls):=by
 have h2:=qq9 ls' hs
 have key:qf8 ls'=false→qa4 ls=false∧ls'=srt ls:=fun ha=>by
  have hi:=qlX ls' h2 ha;have ht:qa4 ls=false:=by rw[←qe6 hp];exact qkH _ hi
  exact⟨ht,qpi _ _ hi (qrd ls ht) (fun x=>by rw[qj5];exact hp.mem_iff)⟩
 refine⟨?_,fun ha=>(key ha).2⟩
 cases ha:qf8 ls' with
 |false=>exact(key ha).1.symm
 |true=>
  cases ht:qa4 ls with
  |true=>rfl
  |false=>
   have hi:Inc ls':=by
    have h3:=(qbr ls').1 (by rw[qe6 hp];exact ht);refine(List.pairwise_map.1 h3).imp₂ ?_ h2;intro a b hne hle;rcases qhX a.1 b.1 with g2|g2|g2
    ·exact g2
    ·exact absurd g2 hne
    ·exact absurd g2 hle
   rw[qlI _ hi] at ha;cases ha
noncomputable def qsi (n:Nat) (p:Int):Nat:=Classical.choose (qpr n p)
theorem qix {n:Nat} {p:Int} {r:Nat} (h:qbn n p r):qsi n p=r:=qhi (Classical.choose_spec (qpr n p)) h
noncomputable def qg3 (l:List UInt8):Option Nat:=
 if 1200<l.length then none else if qbD l=true then some (qrW l) else if qaQ l=true then some (sgw (ngL l)+qsi (qnb l) (qmX l)) else none
structure Smp where
 ls:List Lb
 bits:Nat
 st:Bool
 t:Int
def qaW:Smp:=⟨[],0,false,0⟩
def qiS (all:List Lb) (bits:Nat) (st:Bool) (t:Int):Int×Smp:=
 if (ofF all).1=0 then (0,⟨(ofF all).2,bits,st,t⟩) else ((ofF all).1,qaW)
def qge (all:List Lb) (bits:Nat) (d:List UInt8):Int×Smp:=
 if d=[] then qiS all bits false 0
 else match qmv (wd d)with
  |none=>(234,qaW)
  |some n=>if tb (wr d)=[] then qiS all bits true n else (235,qaW)
noncomputable def qex (all:List Lb) (c:List UInt8):Int×Smp:=
 match qg3 (wd c)with
 |none=>(233,qaW)
 |some bits=>qge all bits (tb (wr c))
noncomputable def qaz (l:List UInt8):Int×Smp:=
 if 65536<l.length then (3,qaW)
 else if qan 58 (nm 58 (tb l))=true then
  (if ((tb (nr 58 (tb l))).head?==some 123)=true then
    (if (qcT (tb (nr 58 (tb l))).tail).1=0 then qex ((qaj,nm 58 (tb l))::(qcT (tb (nr 58 (tb l))).tail).2.1) (tb (qcT (tb (nr 58 (tb l))).tail).2.2) else ((qcT (tb (nr 58 (tb l))).tail).1,qaW))
   else qex [(qaj,nm 58 (tb l))] (tb (tb (nr 58 (tb l)))))
 else (230,qaW)
def qgv (l:List UInt8):List UInt8:=
 if ((tb (nr 58 (tb l))).head?==some 123)=true then wd (tb (qcT (tb (nr 58 (tb l))).tail).2.2) else wd (tb (tb (nr 58 (tb l))))
def qaV (s:Smp):Bool:=qaX s.ls&&(qan 58 (qa0 s.ls qaj)&&((!(Go.Proofs.YtdeimnnpcfncpaaGreatDoor.kindN s.bits==4)||(s.bits==9221120237041090561))&&(s.st||(s.t==0))))
def lbT (x:Lb):List UInt8:=x.1++(61::(34::L.quL x.2++[34]))
def qcw:List (List UInt8)→List UInt8
 | []=>[]
 | [a]=>a
 |a::b::t=>a++(44::qcw (b::t))
def qeN (s:Smp):List UInt8:=
 let o:=s.ls.filter (fun x=>!(x.1==qaj))
 qa0 s.ls qaj++((if o=[] then [] else 123::(qcw (o.map lbT)++[125]))++(32::(qao s.bits++(if s.st then 32::Lib.itoa s.t else []))))
def qcd (s:Smp):Int×List UInt8:=if qaV s=true then (if 65536<(qeN s).length then (3,[]) else (0,qeN s)) else (239,[])
theorem ql8 (X:List UInt8) (hl:X.length≤1200) (h1:qbD X=false) (h2:qaQ X=true) (hF:qjl X):qg3 X=some (qqQ X):=by
 have hz:=qac X;have hd:(BS X).data.toList=X:=by simp[BS]
 obtain⟨a,e,H,S,T,hm,hl2⟩:=qeh (BS X) (by omega) (by rw[hd];exact h2);have mo:=qqr H;have hmv:mv (BS X) a e=qnb X:=by unfold mv qnb;rw[hl2,hd]
 have hx:xpt (mat (BS X) a e) (qll (tlL X))=qmX X:=by unfold qmX;rw[hm,hd]
 rw[hd] at hm;have hbd:=qbV H e (Nat.le_of_lt H.lt) (Nat.le_refl _)
 have hn:qbn (qnb X) (qmX X) (v64 (qcu (qeO X)).mant (qaD (qcu (qeO X)) (qll (tlL X)))):=by
  rw[←hmv,←hx,←hm]
  cases ht:(mat (BS X) a e).trunc with
  |false=>exact qhP mo hbd.2.1 _ ht
  |true=>
   refine qlY mo hbd.2.1 _ ht ?_;rw[hm];rw[hm] at ht;exact hF ht
 unfold qg3;rw[if_neg (by omega),if_neg (by rw[h1];decide),if_pos h2,qix hn];rfl
theorem qcB (t:List UInt8):t=t.take (qbv t)++t.drop (qbv t):=(List.take_append_drop _ _).symm
theorem qjq (m:List UInt8): ∃D,m=D++(qfu m).2∧(∀c∈D,okB c=true)∧D.count 46≤1:=by
 have hd:=qcV m;have hl:=qcB m;unfold qfu;dsimp only
 split
 ·rename_i hr
  refine⟨m.take (qbv m),?_,fun c hc=>qcG (hd c hc),by rw[qb9 _ hd];decide⟩;rw[hr] at hl;exact hl
 ·rename_i c t hr
  split
  ·rename_i hc
   subst hc;have ht:=qcV t;refine⟨m.take (qbv m)++46::t.take (qbv t),?_,?_,?_⟩
   ·rw[hr] at hl
    conv=>lhs;rw[hl,qcB t]
    simp
   ·intro c hc;rw[List.mem_append,List.mem_cons] at hc;rcases hc with hc|rfl|hc
    ·exact qcG (hd c hc)
    ·rfl
    ·exact qcG (ht c hc)
   ·rw[List.count_append,List.count_cons,qb9 _ hd,qb9 _ ht];decide
  ·refine⟨m.take (qbv m),?_,fun c hc=>qcG (hd c hc),by rw[qb9 _ hd];decide⟩;rw[hr] at hl;exact hl
theorem qgf (l:List UInt8): ∃D,l=D++sgd l∧(∀c∈D,okB c=true)∧D.count 46=0:=by
 cases l with
 |nil=>exact⟨[],rfl,(fun c h=>by cases h),rfl⟩
 |cons c t=>
  by_cases g:c=43∨c=45
  ·refine⟨[c],by rw[sgd,if_pos g];rfl,fun x hx=>?_,?_⟩
   ·rcases g with rfl|rfl<;>(simp at hx;subst hx;rfl)
   ·rcases g with rfl|rfl<;>rfl
  ·exact⟨[],by rw[sgd,if_neg g];rfl,(fun c h=>by cases h),rfl⟩
theorem qjE (t:List UInt8) (h:qfj t=true):(∀c∈t,okB c=true)∧t.count 46=0:=by
 cases t with
 |nil=>exact⟨(fun c h=>by cases h),rfl⟩
 |cons c t=>
  unfold qfj at h;simp only[Bool.and_eq_true,Bool.or_eq_true,beq_iff_eq,decide_eq_true_eq] at h;obtain⟨h1,_,h3⟩:=h;have hd:=qgl _ h3;obtain⟨D,e,o,n⟩:=qgf t;refine⟨fun x hx=>?_,?_⟩
  ·rw[List.mem_cons,e,List.mem_append] at hx;rcases hx with rfl|hx|hx
   ·rcases h1 with rfl|rfl<;>rfl
   ·exact o x hx
   ·exact qcG (hd x hx)
  ·rw[List.count_cons,e,List.count_append,n,qb9 _ hd];rcases h1 with rfl|rfl<;>rfl
theorem qeD (l:List UInt8) (h:qaQ l=true):(∀c∈l,okB c=true)∧l.count 46≤1:=by
 unfold qaQ at h;rw[Bool.and_eq_true] at h;obtain⟨D1,e1,o1,n1⟩:=qgf l;obtain⟨D2,e2,o2,n2⟩:=qjq (sgd l);obtain⟨o3,n3⟩:=qjE _ h.2;generalize (qfu (sgd l)).2=T at*;rw[e2] at e1;refine⟨fun x hx=>?_,?_⟩
 ·rw[e1,List.mem_append,List.mem_append] at hx;rcases hx with hx|hx|hx
  ·exact o1 x hx
  ·exact o2 x hx
  ·exact o3 x hx
 ·rw[e1,List.count_append,List.count_append,n1,n3];omega
theorem qsv (c:UInt8) (h:okB c=true):nb c=true:=by
 unfold nb;have h1:c≠32:=fun e=>by subst e;exact absurd h (by decide)
 have h2:c≠9:=fun e=>by subst e;exact absurd h (by decide)
 simp[h1,h2]
theorem qiE (a:Nat) (ha:a<18446744073709551616):(qao a≠[]∧(∀c∈qao a,nb c=true)∧ ∀c∈qao a,c≠123)∧(qao a).length≤1200:=by
 cases hn:qfL a with
 |true=>
  have hk:=(qtV a ha).2 hn;have eb:qao a=[78,97,78]:=by unfold qao;rw[if_pos hk]
  rw[eb];exact⟨⟨by decide,by decide,by decide⟩,by decide⟩
 |false=>
  obtain⟨s,r,rfl,hr⟩:=qja a ha hn;rcases Nat.lt_or_ge r INF with hr'|hr'
  ·obtain⟨W,T,hX,hW,hT,hW0,hl,hA,hTl,k1,k2,k3,k4,k5,k6,k7⟩:=qjp s r hr';refine⟨⟨?_,fun c hc=>qsv c ((qeD _ k1).1 c hc),fun c hc e=>?_⟩,hl⟩
   case refine_2=>
    have:=(qeD _ k1).1 c hc;subst e;exact absurd this (by decide)
   rw[hX];intro e;have:=(List.append_eq_nil_iff.1 e).2;exact hW0 (List.append_eq_nil_iff.1 this).1
  ·obtain rfl:=Nat.le_antisymm hr hr';cases s
   ·rw[qje];exact⟨⟨by decide,by decide,by decide⟩,by decide⟩
   ·rw[qiP];exact⟨⟨by decide,by decide,by decide⟩,by decide⟩
theorem qcO {o:UInt8} {n:List UInt8} (h:qan o n=true):n≠[]∧(∀c∈n,nch o c=true)∧n.length≤128:=by
 unfold qan at h;simp only[Bool.and_eq_true,decide_eq_true_eq] at h;obtain⟨⟨h1,h2⟩,h3,h4⟩:=h
 cases n with
 |nil=>simp at h1
 |cons c t=>
  refine⟨by simp,fun x hx=>?_,h2⟩;rcases List.mem_cons.1 hx with rfl|hx
  ·unfold nch;rw[show ltr o x=true from h3];rfl
  ·have:=List.all_eq_true.1 h4 x hx;exact this
namespace Q
open L
end Q
theorem qjy: ∀a b:List UInt8,Op.bytesLess a b=true↔a<b
 | [],[]=>by simp[Op.bytesLess]
 |_::_,[]=>by simp[Op.bytesLess]
 | [],_::_=>by simp[Op.bytesLess]
 |a::x,b::y=>by
  rw[Op.bytesLess,List.cons_lt_cons_iff,Bool.or_eq_true,Bool.and_eq_true,qjy x y,decide_eq_true_iff,beq_iff_eq]
theorem qio (a b:List UInt8):leB a b=false↔b<a:=by
 unfold leB;rw[Bool.or_eq_false_iff,←Bool.not_eq_true,qjy,beq_eq_false_iff_ne];constructor
 ·rintro⟨h1,h2⟩;rcases qhX a b with g|g|g
  ·exact absurd g h1
  ·exact absurd g h2
  ·exact g
 ·intro h;exact⟨fun g=>qdw _ (qiZ g h),fun g=>by rw[g] at h;exact qdw _ h⟩
def quq (x:Lb):Prop:=qck x=0∧emp x=false
theorem qih: ∀(ls:List Lb) (i:Nat) (p:Option (List UInt8)),(chk i p ls).2=0↔(∀x∈ls,quq x)∧Inc ls∧(∀n,p=some n→ ∀x,ls.head?=some x→n<x.1)
 | [],i,p=>by simp[chk,Inc]
 |x::t,i,p=>by
  rw[chk]
  by_cases h1:qck x=0
  ·rw[if_neg (by simpa using h1)]
   by_cases h2:qeH p x=true
   ·rw[if_pos h2];constructor
    ·intro h;cases h
    ·rintro⟨k1,k2,k3⟩;exfalso;unfold qeH at h2;rw[Bool.or_eq_true] at h2;rcases h2 with h2|h2
     ·have:=(k1 x (List.mem_cons_self ..)).2;unfold emp at this;rw[this] at h2;cases h2
     ·cases p with
      |none=>cases h2
      |some n=>
       have:=(qio x.1 n).2 (k3 n rfl x rfl);simp only at h2;rw[this] at h2;cases h2
   ·rw[if_neg h2,qih t (i+1) (some x.1)];have h2':qeH p x=false:=by simpa using h2
    unfold qeH at h2';rw[Bool.or_eq_false_iff] at h2';constructor
    ·rintro⟨k1,k2,k3⟩;refine⟨fun y hy=>?_,?_,?_⟩
     ·rcases List.mem_cons.1 hy with rfl|hy
      ·exact⟨h1,h2'.1⟩
      ·exact k1 y hy
     ·refine List.pairwise_cons.2 ⟨fun y hy=>?_,k2⟩
      cases t with
      |nil=>cases hy
      |cons z s=>
       have hz:=k3 x.1 rfl z rfl;rcases List.mem_cons.1 hy with rfl|hy
       ·exact hz
       ·exact qiZ hz ((List.pairwise_cons.1 k2).1 y hy)
     ·intro n hn y hy;cases hy;subst hn;exact(qio x.1 n).1 h2'.2
    ·rintro⟨k1,k2,k3⟩;obtain⟨i1,i2⟩:=List.pairwise_cons.1 k2
     exact⟨fun y hy=>k1 y (List.mem_cons_of_mem _ hy),i2,fun n hn y hy=>by
      cases hn
      exact i1 y (List.mem_of_mem_head? hy)⟩
  ·rw[if_pos (by simpa using h1)];constructor
   ·intro h;exact absurd h h1
   ·rintro⟨k1,_⟩;exact absurd (k1 x (List.mem_cons_self ..)).1 h1
theorem qgh (ls:List Lb):qaX ls=true↔ls.length≤64∧(∀x∈ls,quq x)∧Inc ls:=by
 unfold qaX qbj;rw[beq_iff_eq]
 by_cases h:64<ls.length
 ·rw[if_pos h];constructor
  ·intro h;cases h
  ·rintro⟨k,_⟩;omega
 ·rw[if_neg h,qih];constructor
  ·rintro⟨a,b,_⟩;exact⟨by omega,a,b⟩
  ·rintro⟨_,a,b⟩;exact⟨a,b,fun n hn=>by cases hn⟩
theorem qlF {x:Lb} (h:qck x=0):qan 95 x.1=true∧qbi x.2=true:=by
 unfold qck at h
 split at h
 ·rename_i g
  split at h
  ·rename_i g2;exact⟨g,g2⟩
  ·cases h
 ·cases h
theorem qdu {s:Smp} (h:qaV s=true):qaX s.ls=true∧qan 58 (qa0 s.ls qaj)=true∧(Go.Proofs.YtdeimnnpcfncpaaGreatDoor.kindN s.bits≠4∨s.bits=9221120237041090561)∧(s.st=true∨s.t=0):=by
 unfold qaV at h;simp only[Bool.and_eq_true,Bool.or_eq_true,Bool.not_eq_true',beq_iff_eq,beq_eq_false_iff_ne] at h;exact⟨h.1,h.2.1,h.2.2.1,h.2.2.2⟩
theorem qf7 (M:Nat): ∀L:List (List UInt8),(∀a∈L,a.length≤M)→(qcw L).length≤L.length*(M+1)
 | [],_=>Nat.zero_le _
 | [a],h=>by
   have:=h a (List.mem_cons_self ..);show a.length≤_;simp;omega
 |a::b::t,h=>by
  have h1:=h a (List.mem_cons_self ..);have ih:=qf7 M (b::t) (fun x hx=>h x (List.mem_cons_of_mem _ hx));show(a++(44::qcw (b::t))).length≤_;rw[List.length_append,List.length_cons];rw[List.length_cons,Nat.succ_mul];omega
end Go.Proofs.YtdeimnnpcfncpaaGreatDoor.X
end
section
namespace Go.Proofs.YtdeimnnpcfncpaaGreatDoor
open Go Go.RowKit
section
section
variable {P:Program} {ops:Array Oper} {md:Region.Mode} {Q:Exit→Act→World→Prop}
theorem qd1 (hlow: ∀(i:Nat) (o:Oper),ops[i]?=some o→ ∀e∈o.after,Region.binds md e=true→e.on<i) (listed:Array Bool) (hsz:listed.size=ops.size) (hr:Region.ready md ops listed=[]):
 ∀i,i<ops.size→listed.getD i false=true:=by
 intro i
 induction i using Nat.strongRecOn with
 |_ i ih=>
  intro hi
  by_cases hl:listed.getD i false=true
  ·exact hl
  ·exfalso
   have hm:i∈Region.ready md ops listed:=by
    rw[mem_ready];have hi':i<listed.size:=by omega
    refine⟨by simpa [hi'] using hl,ops[i],by simp[hi],fun e he hbd=>ih _ (hlow i ops[i] (by simp[hi]) e he hbd) ?_⟩;have:=hlow i ops[i] (by simp[hi]) e he hbd;omega
   rw[hr] at hm;cases hm
end
end
section
section
variable {P:Program} {Q:Exit→Act→World→Prop}
end
end
section
end
section
end
section
end
end Go.Proofs.YtdeimnnpcfncpaaGreatDoor
end
