/- Parts of the proof: B0 NG NH B1. -/
import Derived.Test.YtdeimnnpcfncpaaGreatDoorCT24
import Derived.Test.YtdeimnnpcfncpaaGreatDoorCT34
set_option linter.unusedVariables false
set_option linter.unusedSimpArgs false
set_option maxRecDepth 100000
set_option maxHeartbeats 64000000
section
namespace Go.Proofs.YtdeimnnpcfncpaaGreatDoor.X
open Go Go.RowKit
theorem qgT (a b:List UInt8):a<b∨a=b∨b<a:=by
 by_cases h:a<b
 ·exact .inl h
 ·by_cases k:b<a
  ·exact .inr (.inr k)
  ·exact .inr (.inl (qn2 h k))
def qbi:List Lb→Int
 | []=>0
 |x::t=>if qc9 x=0 then qbi t else qc9 x
def qmZ (x:Lb):List Lb→List Lb
 | []=>[x]
 |y::t=>if y.1<x.1 then y::qmZ x t else x::y::t
def srt (ls:List Lb):List Lb:=ls.foldr qmZ []
def qaT:List Lb→Bool
 | []=>false
 |x::t=>qa6 t x.1||qaT t
def ofF (ls:List Lb):Int×List Lb:=
 if qbi ls=0 then
  if qaT ls=true then (43,[])
  else if 64<((srt ls).filter (fun x=>!emp x)).length then (5,[]) else (0,(srt ls).filter (fun x=>!emp x))
 else (qbi ls,[])
theorem qeR (ls:List Lb) (n:List UInt8):qa6 ls n=true↔ ∃x∈ls,x.1=n:=by
 unfold qa6;rw[List.any_eq_true];simp
theorem qbf (ls:List Lb):qaT ls=false↔(ls.map Prod.fst).Nodup:=by
 induction ls with
 |nil=>simp[qaT]
 |cons x t ih=>
  rw[List.map_cons,List.nodup_cons,←ih,qaT,Bool.or_eq_false_iff]
  have:qa6 t x.1=false↔x.1∉t.map Prod.fst:=by
   rw[←Bool.not_eq_true,qeR,List.mem_map]
  rw[this]
def Inc (ls:List Lb):Prop:=ls.Pairwise (fun x y=>x.1<y.1)
theorem qnc: ∀a b:List Lb,Inc a→Inc b→(∀x,x∈a↔x∈b)→a=b
 | [],[],_,_,_=>rfl
 | [],y::t,_,_,h=>by have:=(h y).2 (List.mem_cons_self ..);cases this
 |x::s,[],_,_,h=>by have:=(h x).1 (List.mem_cons_self ..);cases this
 |x::s,y::t,ha,hb,h=>by
  obtain⟨a1,a2⟩:=List.pairwise_cons.1 ha;obtain⟨b1,b2⟩:=List.pairwise_cons.1 hb
  have e:x=y:=by
   rcases List.mem_cons.1 ((h x).1 (List.mem_cons_self ..))with e|e
   ·exact e
   ·rcases List.mem_cons.1 ((h y).2 (List.mem_cons_self ..))with e2|e2
    ·exact e2.symm
    ·exact absurd (qhz (b1 x e) (a1 y e2)) (qcR _)
  subst e;refine congrArg (x:: ·) (qnc s t a2 b2 fun z=>⟨fun hz=>?_,fun hz=>?_⟩)
  ·rcases List.mem_cons.1 ((h z).1 (List.mem_cons_of_mem _ hz))with e|e
   ·subst e;exact absurd (a1 z hz) (qcR _)
   ·exact e
  ·rcases List.mem_cons.1 ((h z).2 (List.mem_cons_of_mem _ hz))with e|e
   ·subst e;exact absurd (b1 z hz) (qcR _)
   ·exact e
theorem qjB (x z:Lb) (ls:List Lb):z∈qmZ x ls↔z=x∨z∈ls:=by
 induction ls with
 |nil=>simp[qmZ]
 |cons y t ih=>
  rw[qmZ]
  split
  ·rw[List.mem_cons,ih,List.mem_cons];constructor
   ·intro h;rcases h with h|h|h
    ·exact .inr (.inl h)
    ·exact .inl h
    ·exact .inr (.inr h)
   ·intro h;rcases h with h|h|h
    ·exact .inr (.inl h)
    ·exact .inl h
    ·exact .inr (.inr h)
  ·rw[List.mem_cons]
theorem qjA (ls:List Lb) (z:Lb):z∈srt ls↔z∈ls:=by
 induction ls with
 |nil=>simp[srt]
 |cons x t ih=>
  show z∈qmZ x (srt t)↔_;rw[qjB,ih,List.mem_cons]
theorem qoU (x:Lb) (ls:List Lb) (h:Inc ls) (hn: ∀y∈ls,y.1≠x.1):Inc (qmZ x ls):=by
 induction ls with
 |nil=>exact List.pairwise_singleton _ _
 |cons y t ih=>
  obtain⟨h1,h2⟩:=List.pairwise_cons.1 h;rw[qmZ]
  split
  ·rename_i g
   refine List.pairwise_cons.2 ⟨fun z hz=>?_,ih h2 (fun z hz=>hn z (List.mem_cons_of_mem _ hz))⟩;rcases(qjB x z t).1 hz with rfl|hz
   ·exact g
   ·exact h1 z hz
  ·rename_i g
   have hxy:x.1<y.1:=by
    rcases qgT x.1 y.1 with g2|g2|g2
    ·exact g2
    ·exact absurd g2.symm (hn y (List.mem_cons_self ..))
    ·exact absurd g2 g
   refine List.pairwise_cons.2 ⟨fun z hz=>?_,h⟩;rcases List.mem_cons.1 hz with rfl|hz
   ·exact hxy
   ·exact qhz hxy (h1 z hz)
theorem qnZ (ls:List Lb) (h:qaT ls=false):Inc (srt ls):=by
 induction ls with
 |nil=>exact List.Pairwise.nil
 |cons x t ih=>
  rw[qaT,Bool.or_eq_false_iff] at h;refine qoU x _ (ih h.2) fun y hy e=>?_
  have:=(qeR t x.1).2 ⟨y,(qjA t y).1 hy,e⟩;rw[h.1] at this;cases this
def qfs:List Lb→Bool
 | []=>false
 | [_]=>false
 |x::y::t=>(x.1==y.1)||qfs (y::t)
def qrS (ls:List Lb):Prop:=ls.Pairwise (fun x y=> ¬y.1<x.1)
theorem qn5 (ls:List Lb) (h:qse ls):qrS ls:=by
 unfold qrS;rw[List.pairwise_iff_getElem];intro i j hi hj hij;have:=h i j hij hj;rw[List.getD_eq_getElem?_getD,List.getElem?_eq_getElem hj,List.getD_eq_getElem?_getD,List.getElem?_eq_getElem hi] at this;exact this
theorem qjm: ∀ls:List Lb,qrS ls→qfs ls=false→Inc ls
 | [],_,_=>List.Pairwise.nil
 | [x],_,_=>List.pairwise_singleton _ _
 |x::y::t,h,ha=>by
  rw[qfs,Bool.or_eq_false_iff] at ha;obtain⟨h1,h2⟩:=List.pairwise_cons.1 h;have ih:=qjm (y::t) h2 ha.2
  have hxy:x.1<y.1:=by
   rcases qgT x.1 y.1 with g2|g2|g2
   ·exact g2
   ·exact absurd g2 (by simpa using ha.1)
   ·exact absurd g2 (h1 y (List.mem_cons_self ..))
  refine List.pairwise_cons.2 ⟨fun z hz=>?_,ih⟩;rcases List.mem_cons.1 hz with rfl|hz
  ·exact hxy
  ·exact qhz hxy ((List.pairwise_cons.1 ih).1 z hz)
theorem qjJ (ls:List Lb) (h:Inc ls):qaT ls=false:=by
 induction ls with
 |nil=>rfl
 |cons x t ih=>
  obtain⟨h1,h2⟩:=List.pairwise_cons.1 h;rw[qaT,ih h2,Bool.or_false,←Bool.not_eq_true,qeR];rintro⟨y,hy,e⟩;have:=h1 y hy;rw[e] at this;exact qcR _ this
theorem qjI: ∀ls:List Lb,Inc ls→qfs ls=false
 | [],_=>rfl
 | [x],_=>rfl
 |x::y::t,h=>by
  obtain⟨h1,h2⟩:=List.pairwise_cons.1 h;rw[qfs,qjI (y::t) h2,Bool.or_false,beq_eq_false_iff_ne];intro e;have:=h1 y (List.mem_cons_self ..);rw[e] at this;exact qcR _ this
theorem qeg {a b:List Lb} (h:a.Perm b):qaT a=qaT b:=by
 have:=(h.map Prod.fst).nodup_iff
 cases ha:qaT a with
 |false=>exact((qbf b).2 (this.1 ((qbf a).1 ha))).symm
 |true=>
  cases hb:qaT b with
  |true=>rfl
  |false=>rw[(qbf a).2 (this.2 ((qbf b).1 hb))] at ha;cases ha
theorem qjq {ls ls':List Lb} (hp:ls'.Perm ls) (hs:qse ls'):qfs ls'=qaT ls∧(qfs ls'=false→ls'=srt ls):=by
 have h2:=qn5 ls' hs
 have key:qfs ls'=false→qaT ls=false∧ls'=srt ls:=fun ha=>by
  have hi:=qjm ls' h2 ha;have ht:qaT ls=false:=by rw[←qeg hp];exact qjJ _ hi
  exact⟨ht,qnc _ _ hi (qnZ ls ht) (fun x=>by rw[qjA];exact hp.mem_iff)⟩
 refine⟨?_,fun ha=>(key ha).2⟩
 cases ha:qfs ls' with
 |false=>exact(key ha).1.symm
 |true=>
  cases ht:qaT ls with
  |true=>rfl
  |false=>
   have hi:Inc ls':=by
    have h3:=(qbf ls').1 (by rw[qeg hp];exact ht);refine(List.pairwise_map.1 h3).imp₂ ?_ h2;intro a b hne hle;rcases qgT a.1 b.1 with g2|g2|g2
    ·exact g2
    ·exact absurd g2 hne
    ·exact absurd g2 hle
   rw[qjI _ hi] at ha;cases ha
end Go.Proofs.YtdeimnnpcfncpaaGreatDoor.X
end
section
namespace Go.Proofs.YtdeimnnpcfncpaaGreatDoor
open Go Go.RowKit
def qqV (l:List UInt8):Nat:=if l=[45,73,110,102] then 18442240474082181120 else if l=[78,97,78] then 9221120237041090561 else 9218868437227405312
def qrc (l:List UInt8) (v e:Int):Prop:=
 (1200<l.length∧v=0∧e=3)∨(l.length≤1200∧qbn l=true∧v=(qqV l:Int)∧e=0)∨(l.length≤1200∧qbn l=false∧qaI l=false∧v=0∧e=210)∨
   (l.length≤1200∧qbn l=false∧qaI l=true∧e=0∧ ∃r:Nat,qa5 (qly l) (qkE l) r∧v=((sgw (ngL l)+r:Nat):Int))
def qp2 (l:List UInt8) (w:World) (x:Ending) (w':World):Prop:=
 Below w.heap.size w w'∧ ∃v e,qrc l v e∧x= .returned (.tuple #[.int .u64 v,.int .i64 e])
theorem qoX (l:List UInt8) (h:qbn l=true):l=[73,110,102]∨l=[43,73,110,102]∨l=[45,73,110,102]∨l=[78,97,78]:=by
 unfold qbn at h;simp only[Bool.or_eq_true,beq_iff_eq] at h;rcases h with ((h|h)|h)|h
 ·exact .inl h
 ·exact .inr (.inl h)
 ·exact .inr (.inr (.inl h))
 ·exact .inr (.inr (.inr h))
theorem qiH (s:ByteArray) (hs:s.size≤1200) (hn:qbn s.data.toList=true) (w:World):Calls Tryz.prog 73 #[.string s] w (qhE (qqV s.data.toList:Int) 0 w):=by
 have u1:decide ((1200:Int)<(s.size:Int))=false:=dF (by omega);have u2:decide (1200<s.size)=false:=dF (by omega);have hc:=qoX _ hn;clear hn;obtain⟨l,hlE⟩: ∃l,l=s.data.toList:=⟨_,rfl⟩;rw[←hlE] at hc⊢;have hst:s.toList=l:=by rw[hlE];exact ByteArray.toList_eq s
 clear hlE;rcases hc with rfl|rfl|rfl|rfl
 ·have e1:(s.toList==[73,110,102])=true:=by rw[hst];rfl
  clear hst;go_enter Tryz.func73,Tryz.ntmps73;go_wp2_with fail;go_ret2;exact⟨rfl,Below.refl _ _⟩
 ·have e1:(s.toList==[73,110,102])=false:=by rw[hst];rfl
  have e2:(s.toList==[43,73,110,102])=true:=by rw[hst];rfl
  clear hst;go_enter Tryz.func73,Tryz.ntmps73;go_wp2_with fail;go_ret2;exact⟨rfl,Below.refl _ _⟩
 ·have e1:(s.toList==[73,110,102])=false:=by rw[hst];rfl
  have e2:(s.toList==[43,73,110,102])=false:=by rw[hst];rfl
  have e3:(s.toList==[45,73,110,102])=true:=by rw[hst];rfl
  clear hst;go_enter Tryz.func73,Tryz.ntmps73;go_wp2_with fail;go_ret2;exact⟨rfl,Below.refl _ _⟩
 ·have e1:(s.toList==[73,110,102])=false:=by rw[hst];rfl
  have e2:(s.toList==[43,73,110,102])=false:=by rw[hst];rfl
  have e3:(s.toList==[45,73,110,102])=false:=by rw[hst];rfl
  have e4:(s.toList==[78,97,78])=true:=by rw[hst];rfl
  clear hst;go_enter Tryz.func73,Tryz.ntmps73;go_wp2_with fail;go_ret2;exact⟨rfl,Below.refl _ _⟩
theorem qk2 (s:ByteArray) (hs:s.size≤780∨1200<s.size) (w:World) (hG:qmV w):Calls Tryz.prog 73 #[.string s] w (qp2 s.data.toList w):=by
 have hlen:=qao s;have fin: ∀v e,qrc s.data.toList v e→Calls Tryz.prog 73 #[.string s] w (qhE v e w)→Calls Tryz.prog 73 #[.string s] w (qp2 s.data.toList w):=fun v e h c=>c.mono fun x w' ⟨h1,h2⟩=>⟨h2,v,e,h,h1⟩
 by_cases hb:1200<s.size
 ·exact fin _ _ (.inl ⟨by omega,rfl,rfl⟩) (qjM s hb w)
 ·have h7:s.size≤780:=by omega
  cases hn:qbn s.data.toList with
  |true=>exact fin _ _ (.inr (.inl ⟨by omega,hn,rfl,rfl⟩)) (qiH s (by omega) hn w)
  |false=>
   cases hr:qaI s.data.toList with
   |false=>exact fin _ _ (.inr (.inr (.inl ⟨by omega,hn,hr,rfl,rfl⟩))) (qmo s (by omega) hn hr w)
   |true=>
    obtain⟨r,h⟩:=qoF (qly s.data.toList) (qkE s.data.toList);exact fin _ _ (.inr (.inr (.inr ⟨by omega,hn,hr,rfl,r,h,rfl⟩))) (qhY s h7 hn hr r h w hG)
end Go.Proofs.YtdeimnnpcfncpaaGreatDoor
end
section
namespace Go.Proofs.YtdeimnnpcfncpaaGreatDoor.X
open Go Go.RowKit
noncomputable def qqI (n:Nat) (p:Int):Nat:=Classical.choose (qoF n p)
theorem qgW {n:Nat} {p:Int} {r:Nat} (h:qa5 n p r):qqI n p=r:=qgB (Classical.choose_spec (qoF n p)) h
noncomputable def qfZ (l:List UInt8):Option Nat:=
 if 1200<l.length then none else if qbn l=true then some (qqV l) else if qaI l=true then some (sgw (ngL l)+qqI (qly l) (qkE l)) else none
structure Smp where
 ls:List Lb
 bits:Nat
 st:Bool
 t:Int
def qa4:Smp:=⟨[],0,false,0⟩
def qhO (all:List Lb) (bits:Nat) (st:Bool) (t:Int):Int×Smp:=
 if (ofF all).1=0 then (0,⟨(ofF all).2,bits,st,t⟩) else ((ofF all).1,qa4)
def qe7 (all:List Lb) (bits:Nat) (d:List UInt8):Int×Smp:=
 if d=[] then qhO all bits false 0
 else match qkC (wd d)with
  |none=>(234,qa4)
  |some n=>if tb (wr d)=[] then qhO all bits true n else (235,qa4)
noncomputable def qdR (all:List Lb) (c:List UInt8):Int×Smp:=
 match qfZ (wd c)with
 |none=>(233,qa4)
 |some bits=>qe7 all bits (tb (wr c))
noncomputable def qat (l:List UInt8):Int×Smp:=
 if 65536<l.length then (3,qa4)
 else if qai 58 (nm 58 (tb l))=true then
  (if ((tb (nr 58 (tb l))).head?==some 123)=true then
    (if (qb6 (tb (nr 58 (tb l))).tail).1=0 then qdR ((qal,nm 58 (tb l))::(qb6 (tb (nr 58 (tb l))).tail).2.1) (tb (qb6 (tb (nr 58 (tb l))).tail).2.2) else ((qb6 (tb (nr 58 (tb l))).tail).1,qa4))
   else qdR [(qal,nm 58 (tb l))] (tb (tb (nr 58 (tb l)))))
 else (230,qa4)
def qd2 (l:List UInt8):List UInt8:=
 if ((tb (nr 58 (tb l))).head?==some 123)=true then wd (tb (qb6 (tb (nr 58 (tb l))).tail).2.2) else wd (tb (tb (nr 58 (tb l))))
def qbS (s:Smp):Bool:=qby s.ls&&(qai 58 (qbI s.ls qal)&&((!(Go.Proofs.YtdeimnnpcfncpaaGreatDoor.kindN s.bits==4)||(s.bits==9221120237041090561))&&(s.st||(s.t==0))))
def lbT (x:Lb):List UInt8:=x.1++(61::(34::L.quL x.2++[34]))
def qe6:List (List UInt8)→List UInt8
 | []=>[]
 | [a]=>a
 |a::b::t=>a++(44::qe6 (b::t))
def qgo (s:Smp):List UInt8:=
 let o:=s.ls.filter (fun x=>!(x.1==qal))
 qbI s.ls qal++((if o=[] then [] else 123::(qe6 (o.map lbT)++[125]))++(32::(qaq s.bits++(if s.st then 32::Lib.itoa s.t else []))))
def qiw (s:Smp):Int×List UInt8:=if qbS s=true then (if 65536<(qgo s).length then (3,[]) else (0,qgo s)) else (239,[])
end Go.Proofs.YtdeimnnpcfncpaaGreatDoor.X
end
