/- Parts of the proof: B0 NG NH B1. -/
import Derived.Test.YtdeimnnpcfncpaaGreatDoorCB21
import Derived.Test.YtdeimnnpcfncpaaGreatDoorCB31
set_option linter.unusedVariables false
set_option linter.unusedSimpArgs false
set_option maxRecDepth 100000
set_option maxHeartbeats 64000000
section
namespace Go.Proofs.YtdeimnnpcfncpaaGreatDoor.X
open Go Go.RowKit
theorem qhv (a b:List UInt8):a<b∨a=b∨b<a:=by
 by_cases h:a<b
 ·exact .inl h
 ·by_cases k:b<a
  ·exact .inr (.inr k)
  ·exact .inr (.inl (qoG h k))
def qaM:List Lb→Int
 | []=>0
 |x::t=>if qb0 x=0 then qaM t else qb0 x
def qjn (x:Lb):List Lb→List Lb
 | []=>[x]
 |y::t=>if y.1<x.1 then y::qjn x t else x::y::t
def srt (ls:List Lb):List Lb:=ls.foldr qjn []
def qaJ:List Lb→Bool
 | []=>false
 |x::t=>qcr t x.1||qaJ t
def ofF (ls:List Lb):Int×List Lb:=
 if qaM ls=0 then
  if qaJ ls=true then (43,[])
  else if 64<((srt ls).filter (fun x=>!emp x)).length then (5,[]) else (0,(srt ls).filter (fun x=>!emp x))
 else (qaM ls,[])
theorem qcf (ls:List Lb) (n:List UInt8):qcr ls n=true↔ ∃x∈ls,x.1=n:=by
 unfold qcr;rw[List.any_eq_true];simp
theorem qaQ (ls:List Lb):qaJ ls=false↔(ls.map Prod.fst).Nodup:=by
 induction ls with
 |nil=>simp[qaJ]
 |cons x t ih=>
  rw[List.map_cons,List.nodup_cons,←ih,qaJ,Bool.or_eq_false_iff]
  have:qcr t x.1=false↔x.1∉t.map Prod.fst:=by
   rw[←Bool.not_eq_true,qcf,List.mem_map]
  rw[this]
def Inc (ls:List Lb):Prop:=ls.Pairwise (fun x y=>x.1<y.1)
theorem qkv: ∀a b:List Lb,Inc a→Inc b→(∀x,x∈a↔x∈b)→a=b
 | [],[],_,_,_=>rfl
 | [],y::t,_,_,h=>by have:=(h y).2 (List.mem_cons_self ..);cases this
 |x::s,[],_,_,h=>by have:=(h x).1 (List.mem_cons_self ..);cases this
 |x::s,y::t,ha,hb,h=>by
  obtain⟨a1,a2⟩:=List.pairwise_cons.1 ha;obtain⟨b1,b2⟩:=List.pairwise_cons.1 hb
  have e:x=y:=by
   rcases List.mem_cons.1 ((h x).1 (List.mem_cons_self ..))with e|e
   ·exact e
   ·rcases List.mem_cons.1 ((h y).2 (List.mem_cons_self ..))with e2|e2
    ·exact e2.symm
    ·exact absurd (qio (b1 x e) (a1 y e2)) (qbX _)
  subst e;refine congrArg (x:: ·) (qkv s t a2 b2 fun z=>⟨fun hz=>?_,fun hz=>?_⟩)
  ·rcases List.mem_cons.1 ((h z).1 (List.mem_cons_of_mem _ hz))with e|e
   ·subst e;exact absurd (a1 z hz) (qbX _)
   ·exact e
  ·rcases List.mem_cons.1 ((h z).2 (List.mem_cons_of_mem _ hz))with e|e
   ·subst e;exact absurd (b1 z hz) (qbX _)
   ·exact e
theorem qjz (x z:Lb) (ls:List Lb):z∈qjn x ls↔z=x∨z∈ls:=by
 induction ls with
 |nil=>simp[qjn]
 |cons y t ih=>
  rw[qjn]
  split
  ·rw[List.mem_cons,ih,List.mem_cons];constructor
   ·intro h;rcases h with h|h|h
    ·exact .inr (.inl h)
    ·exact .inl h
    ·exact .inr (.inr h)
   ·intro h;rcases h with h|h|h
    ·exact .inr (.inl h)
    ·exact .inl h
    ·exact .inr (.inr h)
  ·rw[List.mem_cons]
theorem qfe (ls:List Lb) (z:Lb):z∈srt ls↔z∈ls:=by
 induction ls with
 |nil=>simp[srt]
 |cons x t ih=>
  show z∈qjn x (srt t)↔_;rw[qjz,ih,List.mem_cons]
theorem qpC (x:Lb) (ls:List Lb) (h:Inc ls) (hn: ∀y∈ls,y.1≠x.1):Inc (qjn x ls):=by
 induction ls with
 |nil=>exact List.pairwise_singleton _ _
 |cons y t ih=>
  obtain⟨h1,h2⟩:=List.pairwise_cons.1 h;rw[qjn]
  split
  ·rename_i g
   refine List.pairwise_cons.2 ⟨fun z hz=>?_,ih h2 (fun z hz=>hn z (List.mem_cons_of_mem _ hz))⟩;rcases(qjz x z t).1 hz with rfl|hz
   ·exact g
   ·exact h1 z hz
  ·rename_i g
   have hxy:x.1<y.1:=by
    rcases qhv x.1 y.1 with g2|g2|g2
    ·exact g2
    ·exact absurd g2.symm (hn y (List.mem_cons_self ..))
    ·exact absurd g2 g
   refine List.pairwise_cons.2 ⟨fun z hz=>?_,h⟩;rcases List.mem_cons.1 hz with rfl|hz
   ·exact hxy
   ·exact qio hxy (h1 z hz)
theorem qe0 (ls:List Lb) (h:qaJ ls=false):Inc (srt ls):=by
 induction ls with
 |nil=>exact List.Pairwise.nil
 |cons x t ih=>
  rw[qaJ,Bool.or_eq_false_iff] at h;refine qpC x _ (ih h.2) fun y hy e=>?_
  have:=(qcf t x.1).2 ⟨y,(qfe t y).1 hy,e⟩;rw[h.1] at this;cases this
def qgk:List Lb→Bool
 | []=>false
 | [_]=>false
 |x::y::t=>(x.1==y.1)||qgk (y::t)
def qsV (ls:List Lb):Prop:=ls.Pairwise (fun x y=> ¬y.1<x.1)
theorem qou (ls:List Lb) (h:qsw ls):qsV ls:=by
 unfold qsV;rw[List.pairwise_iff_getElem];intro i j hi hj hij;have:=h i j hij hj;rw[List.getD_eq_getElem?_getD,List.getElem?_eq_getElem hj,List.getD_eq_getElem?_getD,List.getElem?_eq_getElem hi] at this;exact this
theorem qkQ: ∀ls:List Lb,qsV ls→qgk ls=false→Inc ls
 | [],_,_=>List.Pairwise.nil
 | [x],_,_=>List.pairwise_singleton _ _
 |x::y::t,h,ha=>by
  rw[qgk,Bool.or_eq_false_iff] at ha;obtain⟨h1,h2⟩:=List.pairwise_cons.1 h;have ih:=qkQ (y::t) h2 ha.2
  have hxy:x.1<y.1:=by
   rcases qhv x.1 y.1 with g2|g2|g2
   ·exact g2
   ·exact absurd g2 (by simpa using ha.1)
   ·exact absurd g2 (h1 y (List.mem_cons_self ..))
  refine List.pairwise_cons.2 ⟨fun z hz=>?_,ih⟩;rcases List.mem_cons.1 hz with rfl|hz
  ·exact hxy
  ·exact qio hxy ((List.pairwise_cons.1 ih).1 z hz)
theorem qcG (ls:List Lb) (h:Inc ls):qaJ ls=false:=by
 induction ls with
 |nil=>rfl
 |cons x t ih=>
  obtain⟨h1,h2⟩:=List.pairwise_cons.1 h;rw[qaJ,ih h2,Bool.or_false,←Bool.not_eq_true,qcf];rintro⟨y,hy,e⟩;have:=h1 y hy;rw[e] at this;exact qbX _ this
theorem qlp: ∀ls:List Lb,Inc ls→qgk ls=false
 | [],_=>rfl
 | [x],_=>rfl
 |x::y::t,h=>by
  obtain⟨h1,h2⟩:=List.pairwise_cons.1 h;rw[qgk,qlp (y::t) h2,Bool.or_false,beq_eq_false_iff_ne];intro e;have:=h1 y (List.mem_cons_self ..);rw[e] at this;exact qbX _ this
theorem qcg {a b:List Lb} (h:a.Perm b):qaJ a=qaJ b:=by
 have:=(h.map Prod.fst).nodup_iff
 cases ha:qaJ a with
 |false=>exact((qaQ b).2 (this.1 ((qaQ a).1 ha))).symm
 |true=>
  cases hb:qaJ b with
  |true=>rfl
  |false=>rw[(qaQ a).2 (this.2 ((qaQ b).1 hb))] at ha;cases ha
theorem qfP {ls ls':List Lb} (hp:ls'.Perm ls) (hs:qsw ls'):qgk ls'=qaJ ls∧(qgk ls'=false→ls'=srt ls):=by
 have h2:=qou ls' hs
 have key:qgk ls'=false→qaJ ls=false∧ls'=srt ls:=fun ha=>by
  have hi:=qkQ ls' h2 ha;have ht:qaJ ls=false:=by rw[←qcg hp];exact qcG _ hi
  exact⟨ht,qkv _ _ hi (qe0 ls ht) (fun x=>by rw[qfe];exact hp.mem_iff)⟩
 refine⟨?_,fun ha=>(key ha).2⟩
 cases ha:qgk ls' with
 |false=>exact(key ha).1.symm
 |true=>
  cases ht:qaJ ls with
  |true=>rfl
  |false=>
   have hi:Inc ls':=by
    have h3:=(qaQ ls').1 (by rw[qcg hp];exact ht);refine(List.pairwise_map.1 h3).imp₂ ?_ h2;intro a b hne hle;rcases qhv a.1 b.1 with g2|g2|g2
    ·exact g2
    ·exact absurd g2 hne
    ·exact absurd g2 hle
   rw[qlp _ hi] at ha;cases ha
end Go.Proofs.YtdeimnnpcfncpaaGreatDoor.X
end
section
namespace Go.Proofs.YtdeimnnpcfncpaaGreatDoor
open Go Go.RowKit
def qrX (l:List UInt8):Nat:=if l=[45,73,110,102] then 18442240474082181120 else if l=[78,97,78] then 9221120237041090561 else 9218868437227405312
def qrF (l:List UInt8) (v e:Int):Prop:=
 (1200<l.length∧v=0∧e=3)∨(l.length≤1200∧qbz l=true∧v=(qrX l:Int)∧e=0)∨(l.length≤1200∧qbz l=false∧qaB l=false∧v=0∧e=210)∨
   (l.length≤1200∧qbz l=false∧qaB l=true∧e=0∧ ∃r:Nat,qbo (qm6 l) (qms l) r∧v=((sgw (ngL l)+r:Nat):Int))
def qse (l:List UInt8) (w:World) (x:Ending) (w':World):Prop:=
 Below w.heap.size w w'∧ ∃v e,qrF l v e∧x= .returned (.tuple #[.int .u64 v,.int .i64 e])
theorem qpN (l:List UInt8) (h:qbz l=true):l=[73,110,102]∨l=[43,73,110,102]∨l=[45,73,110,102]∨l=[78,97,78]:=by
 unfold qbz at h;simp only[Bool.or_eq_true,beq_iff_eq] at h;rcases h with ((h|h)|h)|h
 ·exact .inl h
 ·exact .inr (.inl h)
 ·exact .inr (.inr (.inl h))
 ·exact .inr (.inr (.inr h))
theorem qjR (s:ByteArray) (hs:s.size≤1200) (hn:qbz s.data.toList=true) (w:World):Calls Tryz.prog 73 #[.string s] w (qdX (qrX s.data.toList:Int) 0 w):=by
 have u1:decide ((1200:Int)<(s.size:Int))=false:=dF (by omega);have u2:decide (1200<s.size)=false:=dF (by omega);have hc:=qpN _ hn;clear hn;obtain⟨l,hlE⟩: ∃l,l=s.data.toList:=⟨_,rfl⟩;rw[←hlE] at hc⊢;have hst:s.toList=l:=by rw[hlE];exact ByteArray.toList_eq s
 clear hlE;rcases hc with rfl|rfl|rfl|rfl
 ·have e1:(s.toList==[73,110,102])=true:=by rw[hst];rfl
  clear hst;go_enter Tryz.func73,Tryz.ntmps73;go_wp2_with fail;go_ret2;exact⟨rfl,Below.refl _ _⟩
 ·have e1:(s.toList==[73,110,102])=false:=by rw[hst];rfl
  have e2:(s.toList==[43,73,110,102])=true:=by rw[hst];rfl
  clear hst;go_enter Tryz.func73,Tryz.ntmps73;go_wp2_with fail;go_ret2;exact⟨rfl,Below.refl _ _⟩
 ·have e1:(s.toList==[73,110,102])=false:=by rw[hst];rfl
  have e2:(s.toList==[43,73,110,102])=false:=by rw[hst];rfl
  have e3:(s.toList==[45,73,110,102])=true:=by rw[hst];rfl
  clear hst;go_enter Tryz.func73,Tryz.ntmps73;go_wp2_with fail;go_ret2;exact⟨rfl,Below.refl _ _⟩
 ·have e1:(s.toList==[73,110,102])=false:=by rw[hst];rfl
  have e2:(s.toList==[43,73,110,102])=false:=by rw[hst];rfl
  have e3:(s.toList==[45,73,110,102])=false:=by rw[hst];rfl
  have e4:(s.toList==[78,97,78])=true:=by rw[hst];rfl
  clear hst;go_enter Tryz.func73,Tryz.ntmps73;go_wp2_with fail;go_ret2;exact⟨rfl,Below.refl _ _⟩
theorem qlS (s:ByteArray) (hs:s.size≤780∨1200<s.size) (w:World) (hG:qjs w):Calls Tryz.prog 73 #[.string s] w (qse s.data.toList w):=by
 have hlen:=qas s;have fin: ∀v e,qrF s.data.toList v e→Calls Tryz.prog 73 #[.string s] w (qdX v e w)→Calls Tryz.prog 73 #[.string s] w (qse s.data.toList w):=fun v e h c=>c.mono fun x w' ⟨h1,h2⟩=>⟨h2,v,e,h,h1⟩
 by_cases hb:1200<s.size
 ·exact fin _ _ (.inl ⟨by omega,rfl,rfl⟩) (qkF s hb w)
 ·have h7:s.size≤780:=by omega
  cases hn:qbz s.data.toList with
  |true=>exact fin _ _ (.inr (.inl ⟨by omega,hn,rfl,rfl⟩)) (qjR s (by omega) hn w)
  |false=>
   cases hr:qaB s.data.toList with
   |false=>exact fin _ _ (.inr (.inr (.inl ⟨by omega,hn,hr,rfl,rfl⟩))) (qlO s (by omega) hn hr w)
   |true=>
    obtain⟨r,h⟩:=qp5 (qm6 s.data.toList) (qms s.data.toList);exact fin _ _ (.inr (.inr (.inr ⟨by omega,hn,hr,rfl,r,h,rfl⟩))) (qiW s h7 hn hr r h w hG)
end Go.Proofs.YtdeimnnpcfncpaaGreatDoor
end
section
namespace Go.Proofs.YtdeimnnpcfncpaaGreatDoor.X
open Go Go.RowKit
noncomputable def qsh (n:Nat) (p:Int):Nat:=Classical.choose (qp5 n p)
theorem qhR {n:Nat} {p:Int} {r:Nat} (h:qbo n p r):qsh n p=r:=qhh (Classical.choose_spec (qp5 n p)) h
noncomputable def qez (l:List UInt8):Option Nat:=
 if 1200<l.length then none else if qbz l=true then some (qrX l) else if qaB l=true then some (sgw (ngL l)+qsh (qm6 l) (qms l)) else none
structure Smp where
 ls:List Lb
 bits:Nat
 st:Bool
 t:Int
def qa6:Smp:=⟨[],0,false,0⟩
def qeV (all:List Lb) (bits:Nat) (st:Bool) (t:Int):Int×Smp:=
 if (ofF all).1=0 then (0,⟨(ofF all).2,bits,st,t⟩) else ((ofF all).1,qa6)
def qdM (all:List Lb) (bits:Nat) (d:List UInt8):Int×Smp:=
 if d=[] then qeV all bits false 0
 else match qkK (wd d)with
  |none=>(234,qa6)
  |some n=>if tb (wr d)=[] then qeV all bits true n else (235,qa6)
noncomputable def qcq (all:List Lb) (c:List UInt8):Int×Smp:=
 match qez (wd c)with
 |none=>(233,qa6)
 |some bits=>qdM all bits (tb (wr c))
noncomputable def qax (l:List UInt8):Int×Smp:=
 if 65536<l.length then (3,qa6)
 else if qan 58 (nm 58 (tb l))=true then
  (if ((tb (nr 58 (tb l))).head?==some 123)=true then
    (if (qb7 (tb (nr 58 (tb l))).tail).1=0 then qcq ((qag,nm 58 (tb l))::(qb7 (tb (nr 58 (tb l))).tail).2.1) (tb (qb7 (tb (nr 58 (tb l))).tail).2.2) else ((qb7 (tb (nr 58 (tb l))).tail).1,qa6))
   else qcq [(qag,nm 58 (tb l))] (tb (tb (nr 58 (tb l)))))
 else (230,qa6)
def qdo (l:List UInt8):List UInt8:=
 if ((tb (nr 58 (tb l))).head?==some 123)=true then wd (tb (qb7 (tb (nr 58 (tb l))).tail).2.2) else wd (tb (tb (nr 58 (tb l))))
def qaW (s:Smp):Bool:=qaL s.ls&&(qan 58 (qaE s.ls qag)&&((!(Go.Proofs.YtdeimnnpcfncpaaGreatDoor.kindN s.bits==4)||(s.bits==9221120237041090561))&&(s.st||(s.t==0))))
def lbT (x:Lb):List UInt8:=x.1++(61::(34::L.quL x.2++[34]))
def qbj:List (List UInt8)→List UInt8
 | []=>[]
 | [a]=>a
 |a::b::t=>a++(44::qbj (b::t))
def qam (s:Smp):List UInt8:=
 let o:=s.ls.filter (fun x=>!(x.1==qag))
 qaE s.ls qag++((if o=[] then [] else 123::(qbj (o.map lbT)++[125]))++(32::(qah s.bits++(if s.st then 32::Lib.itoa s.t else []))))
def qcZ (s:Smp):Int×List UInt8:=if qaW s=true then (if 65536<(qam s).length then (3,[]) else (0,qam s)) else (239,[])
end Go.Proofs.YtdeimnnpcfncpaaGreatDoor.X
end
