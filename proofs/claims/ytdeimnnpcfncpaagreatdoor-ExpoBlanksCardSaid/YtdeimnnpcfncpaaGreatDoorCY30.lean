/- Parts of the proof: B0 NG NH B1. -/
import Derived.Test.YtdeimnnpcfncpaaGreatDoorCY26
import Derived.Test.YtdeimnnpcfncpaaGreatDoorCY29
set_option linter.unusedVariables false
set_option linter.unusedSimpArgs false
set_option maxRecDepth 100000
set_option maxHeartbeats 64000000
section
namespace Go.Proofs.YtdeimnnpcfncpaaGreatDoor.X
open Go Go.RowKit
theorem qhF (a b:List UInt8):a<b∨a=b∨b<a:=by
 by_cases h:a<b
 ·exact .inl h
 ·by_cases k:b<a
  ·exact .inr (.inr k)
  ·exact .inr (.inl (qpg h k))
def qaO:List Lb→Int
 | []=>0
 |x::t=>if qb0 x=0 then qaO t else qb0 x
def qkS (x:Lb):List Lb→List Lb
 | []=>[x]
 |y::t=>if y.1<x.1 then y::qkS x t else x::y::t
def srt (ls:List Lb):List Lb:=ls.foldr qkS []
def qaC:List Lb→Bool
 | []=>false
 |x::t=>qb2 t x.1||qaC t
def ofF (ls:List Lb):Int×List Lb:=
 if qaO ls=0 then
  if qaC ls=true then (43,[])
  else if 64<((srt ls).filter (fun x=>!emp x)).length then (5,[]) else (0,(srt ls).filter (fun x=>!emp x))
 else (qaO ls,[])
theorem qcA (ls:List Lb) (n:List UInt8):qb2 ls n=true↔ ∃x∈ls,x.1=n:=by
 unfold qb2;rw[List.any_eq_true];simp
theorem qa6 (ls:List Lb):qaC ls=false↔(ls.map Prod.fst).Nodup:=by
 induction ls with
 |nil=>simp[qaC]
 |cons x t ih=>
  rw[List.map_cons,List.nodup_cons,←ih,qaC,Bool.or_eq_false_iff]
  have:qb2 t x.1=false↔x.1∉t.map Prod.fst:=by
   rw[←Bool.not_eq_true,qcA,List.mem_map]
  rw[this]
def Inc (ls:List Lb):Prop:=ls.Pairwise (fun x y=>x.1<y.1)
theorem qjF: ∀a b:List Lb,Inc a→Inc b→(∀x,x∈a↔x∈b)→a=b
 | [],[],_,_,_=>rfl
 | [],y::t,_,_,h=>by have:=(h y).2 (List.mem_cons_self ..);cases this
 |x::s,[],_,_,h=>by have:=(h x).1 (List.mem_cons_self ..);cases this
 |x::s,y::t,ha,hb,h=>by
  obtain⟨a1,a2⟩:=List.pairwise_cons.1 ha;obtain⟨b1,b2⟩:=List.pairwise_cons.1 hb
  have e:x=y:=by
   rcases List.mem_cons.1 ((h x).1 (List.mem_cons_self ..))with e|e
   ·exact e
   ·rcases List.mem_cons.1 ((h y).2 (List.mem_cons_self ..))with e2|e2
    ·exact e2.symm
    ·exact absurd (qiO (b1 x e) (a1 y e2)) (qbV _)
  subst e;refine congrArg (x:: ·) (qjF s t a2 b2 fun z=>⟨fun hz=>?_,fun hz=>?_⟩)
  ·rcases List.mem_cons.1 ((h z).1 (List.mem_cons_of_mem _ hz))with e|e
   ·subst e;exact absurd (a1 z hz) (qbV _)
   ·exact e
  ·rcases List.mem_cons.1 ((h z).2 (List.mem_cons_of_mem _ hz))with e|e
   ·subst e;exact absurd (b1 z hz) (qbV _)
   ·exact e
theorem qlp (x z:Lb) (ls:List Lb):z∈qkS x ls↔z=x∨z∈ls:=by
 induction ls with
 |nil=>simp[qkS]
 |cons y t ih=>
  rw[qkS]
  split
  ·rw[List.mem_cons,ih,List.mem_cons];constructor
   ·intro h;rcases h with h|h|h
    ·exact .inr (.inl h)
    ·exact .inl h
    ·exact .inr (.inr h)
   ·intro h;rcases h with h|h|h
    ·exact .inr (.inl h)
    ·exact .inl h
    ·exact .inr (.inr h)
  ·rw[List.mem_cons]
theorem qeZ (ls:List Lb) (z:Lb):z∈srt ls↔z∈ls:=by
 induction ls with
 |nil=>simp[srt]
 |cons x t ih=>
  show z∈qkS x (srt t)↔_;rw[qlp,ih,List.mem_cons]
theorem qoW (x:Lb) (ls:List Lb) (h:Inc ls) (hn: ∀y∈ls,y.1≠x.1):Inc (qkS x ls):=by
 induction ls with
 |nil=>exact List.pairwise_singleton _ _
 |cons y t ih=>
  obtain⟨h1,h2⟩:=List.pairwise_cons.1 h;rw[qkS]
  split
  ·rename_i g
   refine List.pairwise_cons.2 ⟨fun z hz=>?_,ih h2 (fun z hz=>hn z (List.mem_cons_of_mem _ hz))⟩;rcases(qlp x z t).1 hz with rfl|hz
   ·exact g
   ·exact h1 z hz
  ·rename_i g
   have hxy:x.1<y.1:=by
    rcases qhF x.1 y.1 with g2|g2|g2
    ·exact g2
    ·exact absurd g2.symm (hn y (List.mem_cons_self ..))
    ·exact absurd g2 g
   refine List.pairwise_cons.2 ⟨fun z hz=>?_,h⟩;rcases List.mem_cons.1 hz with rfl|hz
   ·exact hxy
   ·exact qiO hxy (h1 z hz)
theorem qfy (ls:List Lb) (h:qaC ls=false):Inc (srt ls):=by
 induction ls with
 |nil=>exact List.Pairwise.nil
 |cons x t ih=>
  rw[qaC,Bool.or_eq_false_iff] at h;refine qoW x _ (ih h.2) fun y hy e=>?_
  have:=(qcA t x.1).2 ⟨y,(qeZ t y).1 hy,e⟩;rw[h.1] at this;cases this
def qga:List Lb→Bool
 | []=>false
 | [_]=>false
 |x::y::t=>(x.1==y.1)||qga (y::t)
def qsS (ls:List Lb):Prop:=ls.Pairwise (fun x y=> ¬y.1<x.1)
theorem qox (ls:List Lb) (h:qsw ls):qsS ls:=by
 unfold qsS;rw[List.pairwise_iff_getElem];intro i j hi hj hij;have:=h i j hij hj;rw[List.getD_eq_getElem?_getD,List.getElem?_eq_getElem hj,List.getD_eq_getElem?_getD,List.getElem?_eq_getElem hi] at this;exact this
theorem qkO: ∀ls:List Lb,qsS ls→qga ls=false→Inc ls
 | [],_,_=>List.Pairwise.nil
 | [x],_,_=>List.pairwise_singleton _ _
 |x::y::t,h,ha=>by
  rw[qga,Bool.or_eq_false_iff] at ha;obtain⟨h1,h2⟩:=List.pairwise_cons.1 h;have ih:=qkO (y::t) h2 ha.2
  have hxy:x.1<y.1:=by
   rcases qhF x.1 y.1 with g2|g2|g2
   ·exact g2
   ·exact absurd g2 (by simpa using ha.1)
   ·exact absurd g2 (h1 y (List.mem_cons_self ..))
  refine List.pairwise_cons.2 ⟨fun z hz=>?_,ih⟩;rcases List.mem_cons.1 hz with rfl|hz
  ·exact hxy
  ·exact qiO hxy ((List.pairwise_cons.1 ih).1 z hz)
theorem qcz (ls:List Lb) (h:Inc ls):qaC ls=false:=by
 induction ls with
 |nil=>rfl
 |cons x t ih=>
  obtain⟨h1,h2⟩:=List.pairwise_cons.1 h;rw[qaC,ih h2,Bool.or_false,←Bool.not_eq_true,qcA];rintro⟨y,hy,e⟩;have:=h1 y hy;rw[e] at this;exact qbV _ this
theorem qkp: ∀ls:List Lb,Inc ls→qga ls=false
 | [],_=>rfl
 | [x],_=>rfl
 |x::y::t,h=>by
  obtain⟨h1,h2⟩:=List.pairwise_cons.1 h;rw[qga,qkp (y::t) h2,Bool.or_false,beq_eq_false_iff_ne];intro e;have:=h1 y (List.mem_cons_self ..);rw[e] at this;exact qbV _ this
theorem qbq {a b:List Lb} (h:a.Perm b):qaC a=qaC b:=by
 have:=(h.map Prod.fst).nodup_iff
 cases ha:qaC a with
 |false=>exact((qa6 b).2 (this.1 ((qa6 a).1 ha))).symm
 |true=>
  cases hb:qaC b with
  |true=>rfl
  |false=>rw[(qa6 a).2 (this.2 ((qa6 b).1 hb))] at ha;cases ha
theorem qfG {ls ls':List Lb} (hp:ls'.Perm ls) (hs:qsw ls'):qga ls'=qaC ls∧(qga ls'=false→ls'=srt ls):=by
 have h2:=qox ls' hs
 have key:qga ls'=false→qaC ls=false∧ls'=srt ls:=fun ha=>by
  have hi:=qkO ls' h2 ha;have ht:qaC ls=false:=by rw[←qbq hp];exact qcz _ hi
  exact⟨ht,qjF _ _ hi (qfy ls ht) (fun x=>by rw[qeZ];exact hp.mem_iff)⟩
 refine⟨?_,fun ha=>(key ha).2⟩
 cases ha:qga ls' with
 |false=>exact(key ha).1.symm
 |true=>
  cases ht:qaC ls with
  |true=>rfl
  |false=>
   have hi:Inc ls':=by
    have h3:=(qa6 ls').1 (by rw[qbq hp];exact ht);refine(List.pairwise_map.1 h3).imp₂ ?_ h2;intro a b hne hle;rcases qhF a.1 b.1 with g2|g2|g2
    ·exact g2
    ·exact absurd g2 hne
    ·exact absurd g2 hle
   rw[qkp _ hi] at ha;cases ha
end Go.Proofs.YtdeimnnpcfncpaaGreatDoor.X
end
section
namespace Go.Proofs.YtdeimnnpcfncpaaGreatDoor
open Go Go.RowKit
def qrU (l:List UInt8):Nat:=if l=[45,73,110,102] then 18442240474082181120 else if l=[78,97,78] then 9221120237041090561 else 9218868437227405312
def qrr (l:List UInt8) (v e:Int):Prop:=
 (1200<l.length∧v=0∧e=3)∨(l.length≤1200∧qbt l=true∧v=(qrU l:Int)∧e=0)∨(l.length≤1200∧qbt l=false∧qaE l=false∧v=0∧e=210)∨
   (l.length≤1200∧qbt l=false∧qaE l=true∧e=0∧ ∃r:Nat,qbk (qmm l) (qlD l) r∧v=((sgw (ngL l)+r:Nat):Int))
def qrz (l:List UInt8) (w:World) (x:Ending) (w':World):Prop:=
 Below w.heap.size w w'∧ ∃v e,qrr l v e∧x= .returned (.tuple #[.int .u64 v,.int .i64 e])
theorem qpM (l:List UInt8) (h:qbt l=true):l=[73,110,102]∨l=[43,73,110,102]∨l=[45,73,110,102]∨l=[78,97,78]:=by
 unfold qbt at h;simp only[Bool.or_eq_true,beq_iff_eq] at h;rcases h with ((h|h)|h)|h
 ·exact .inl h
 ·exact .inr (.inl h)
 ·exact .inr (.inr (.inl h))
 ·exact .inr (.inr (.inr h))
theorem qjR (s:ByteArray) (hs:s.size≤1200) (hn:qbt s.data.toList=true) (w:World):Calls Tryz.prog 73 #[.string s] w (qd3 (qrU s.data.toList:Int) 0 w):=by
 have u1:decide ((1200:Int)<(s.size:Int))=false:=dF (by omega);have u2:decide (1200<s.size)=false:=dF (by omega);have hc:=qpM _ hn;clear hn;obtain⟨l,hlE⟩: ∃l,l=s.data.toList:=⟨_,rfl⟩;rw[←hlE] at hc⊢;have hst:s.toList=l:=by rw[hlE];exact ByteArray.toList_eq s
 clear hlE;rcases hc with rfl|rfl|rfl|rfl
 ·have e1:(s.toList==[73,110,102])=true:=by rw[hst];rfl
  clear hst;go_enter Tryz.func73,Tryz.ntmps73;go_wp2_with fail;go_ret2;exact⟨rfl,Below.refl _ _⟩
 ·have e1:(s.toList==[73,110,102])=false:=by rw[hst];rfl
  have e2:(s.toList==[43,73,110,102])=true:=by rw[hst];rfl
  clear hst;go_enter Tryz.func73,Tryz.ntmps73;go_wp2_with fail;go_ret2;exact⟨rfl,Below.refl _ _⟩
 ·have e1:(s.toList==[73,110,102])=false:=by rw[hst];rfl
  have e2:(s.toList==[43,73,110,102])=false:=by rw[hst];rfl
  have e3:(s.toList==[45,73,110,102])=true:=by rw[hst];rfl
  clear hst;go_enter Tryz.func73,Tryz.ntmps73;go_wp2_with fail;go_ret2;exact⟨rfl,Below.refl _ _⟩
 ·have e1:(s.toList==[73,110,102])=false:=by rw[hst];rfl
  have e2:(s.toList==[43,73,110,102])=false:=by rw[hst];rfl
  have e3:(s.toList==[45,73,110,102])=false:=by rw[hst];rfl
  have e4:(s.toList==[78,97,78])=true:=by rw[hst];rfl
  clear hst;go_enter Tryz.func73,Tryz.ntmps73;go_wp2_with fail;go_ret2;exact⟨rfl,Below.refl _ _⟩
theorem qnC (s:ByteArray) (hs:s.size≤780∨1200<s.size) (w:World) (hG:qj9 w):Calls Tryz.prog 73 #[.string s] w (qrz s.data.toList w):=by
 have hlen:=qau s;have fin: ∀v e,qrr s.data.toList v e→Calls Tryz.prog 73 #[.string s] w (qd3 v e w)→Calls Tryz.prog 73 #[.string s] w (qrz s.data.toList w):=fun v e h c=>c.mono fun x w' ⟨h1,h2⟩=>⟨h2,v,e,h,h1⟩
 by_cases hb:1200<s.size
 ·exact fin _ _ (.inl ⟨by omega,rfl,rfl⟩) (qlb s hb w)
 ·have h7:s.size≤780:=by omega
  cases hn:qbt s.data.toList with
  |true=>exact fin _ _ (.inr (.inl ⟨by omega,hn,rfl,rfl⟩)) (qjR s (by omega) hn w)
  |false=>
   cases hr:qaE s.data.toList with
   |false=>exact fin _ _ (.inr (.inr (.inl ⟨by omega,hn,hr,rfl,rfl⟩))) (qnv s (by omega) hn hr w)
   |true=>
    obtain⟨r,h⟩:=qpF (qmm s.data.toList) (qlD s.data.toList);exact fin _ _ (.inr (.inr (.inr ⟨by omega,hn,hr,rfl,r,h,rfl⟩))) (qiK s h7 hn hr r h w hG)
end Go.Proofs.YtdeimnnpcfncpaaGreatDoor
end
section
namespace Go.Proofs.YtdeimnnpcfncpaaGreatDoor.X
open Go Go.RowKit
noncomputable def qsa (n:Nat) (p:Int):Nat:=Classical.choose (qpF n p)
theorem qh9 {n:Nat} {p:Int} {r:Nat} (h:qbk n p r):qsa n p=r:=qgT (Classical.choose_spec (qpF n p)) h
noncomputable def qeF (l:List UInt8):Option Nat:=
 if 1200<l.length then none else if qbt l=true then some (qrU l) else if qaE l=true then some (sgw (ngL l)+qsa (qmm l) (qlD l)) else none
structure Smp where
 ls:List Lb
 bits:Nat
 st:Bool
 t:Int
def qbj:Smp:=⟨[],0,false,0⟩
def qfr (all:List Lb) (bits:Nat) (st:Bool) (t:Int):Int×Smp:=
 if (ofF all).1=0 then (0,⟨(ofF all).2,bits,st,t⟩) else ((ofF all).1,qbj)
def qdC (all:List Lb) (bits:Nat) (d:List UInt8):Int×Smp:=
 if d=[] then qfr all bits false 0
 else match qkW (wd d)with
  |none=>(234,qbj)
  |some n=>if tb (wr d)=[] then qfr all bits true n else (235,qbj)
noncomputable def qcL (all:List Lb) (c:List UInt8):Int×Smp:=
 match qeF (wd c)with
 |none=>(233,qbj)
 |some bits=>qdC all bits (tb (wr c))
noncomputable def qay (l:List UInt8):Int×Smp:=
 if 65536<l.length then (3,qbj)
 else if qan 58 (nm 58 (tb l))=true then
  (if ((tb (nr 58 (tb l))).head?==some 123)=true then
    (if (qcj (tb (nr 58 (tb l))).tail).1=0 then qcL ((qag,nm 58 (tb l))::(qcj (tb (nr 58 (tb l))).tail).2.1) (tb (qcj (tb (nr 58 (tb l))).tail).2.2) else ((qcj (tb (nr 58 (tb l))).tail).1,qbj))
   else qcL [(qag,nm 58 (tb l))] (tb (tb (nr 58 (tb l)))))
 else (230,qbj)
def qdH (l:List UInt8):List UInt8:=
 if ((tb (nr 58 (tb l))).head?==some 123)=true then wd (tb (qcj (tb (nr 58 (tb l))).tail).2.2) else wd (tb (tb (nr 58 (tb l))))
def qa5 (s:Smp):Bool:=qaF s.ls&&(qan 58 (qaI s.ls qag)&&((!(Go.Proofs.YtdeimnnpcfncpaaGreatDoor.kindN s.bits==4)||(s.bits==9221120237041090561))&&(s.st||(s.t==0))))
def lbT (x:Lb):List UInt8:=x.1++(61::(34::L.quL x.2++[34]))
def qeo:List (List UInt8)→List UInt8
 | []=>[]
 | [a]=>a
 |a::b::t=>a++(44::qeo (b::t))
def qbT (s:Smp):List UInt8:=
 let o:=s.ls.filter (fun x=>!(x.1==qag))
 qaI s.ls qag++((if o=[] then [] else 123::(qeo (o.map lbT)++[125]))++(32::(qak s.bits++(if s.st then 32::Lib.itoa s.t else []))))
def qhg (s:Smp):Int×List UInt8:=if qa5 s=true then (if 65536<(qbT s).length then (3,[]) else (0,qbT s)) else (239,[])
end Go.Proofs.YtdeimnnpcfncpaaGreatDoor.X
end
