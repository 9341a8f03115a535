/- Parts of the proof: B0 NG NH B1. -/
import Derived.Test.YtdeimnnpcfncpaaGreatDoorCW20
import Derived.Test.YtdeimnnpcfncpaaGreatDoorCW29
set_option linter.unusedVariables false
set_option linter.unusedSimpArgs false
set_option maxRecDepth 100000
set_option maxHeartbeats 64000000
section
namespace Go.Proofs.YtdeimnnpcfncpaaGreatDoor.X
open Go Go.RowKit
theorem qhp (a b:List UInt8):a<b∨a=b∨b<a:=by
 by_cases h:a<b
 ·exact .inl h
 ·by_cases k:b<a
  ·exact .inr (.inr k)
  ·exact .inr (.inl (qoi h k))
def qaM:List Lb→Int
 | []=>0
 |x::t=>if qbS x=0 then qaM t else qbS x
def qjX (x:Lb):List Lb→List Lb
 | []=>[x]
 |y::t=>if y.1<x.1 then y::qjX x t else x::y::t
def srt (ls:List Lb):List Lb:=ls.foldr qjX []
def qaN:List Lb→Bool
 | []=>false
 |x::t=>qcn t x.1||qaN t
def ofF (ls:List Lb):Int×List Lb:=
 if qaM ls=0 then
  if qaN ls=true then (43,[])
  else if 64<((srt ls).filter (fun x=>!emp x)).length then (5,[]) else (0,(srt ls).filter (fun x=>!emp x))
 else (qaM ls,[])
theorem qdl (ls:List Lb) (n:List UInt8):qcn ls n=true↔ ∃x∈ls,x.1=n:=by
 unfold qcn;rw[List.any_eq_true];simp
theorem qa1 (ls:List Lb):qaN ls=false↔(ls.map Prod.fst).Nodup:=by
 induction ls with
 |nil=>simp[qaN]
 |cons x t ih=>
  rw[List.map_cons,List.nodup_cons,←ih,qaN,Bool.or_eq_false_iff]
  have:qcn t x.1=false↔x.1∉t.map Prod.fst:=by
   rw[←Bool.not_eq_true,qdl,List.mem_map]
  rw[this]
def Inc (ls:List Lb):Prop:=ls.Pairwise (fun x y=>x.1<y.1)
theorem qnI: ∀a b:List Lb,Inc a→Inc b→(∀x,x∈a↔x∈b)→a=b
 | [],[],_,_,_=>rfl
 | [],y::t,_,_,h=>by have:=(h y).2 (List.mem_cons_self ..);cases this
 |x::s,[],_,_,h=>by have:=(h x).1 (List.mem_cons_self ..);cases this
 |x::s,y::t,ha,hb,h=>by
  obtain⟨a1,a2⟩:=List.pairwise_cons.1 ha;obtain⟨b1,b2⟩:=List.pairwise_cons.1 hb
  have e:x=y:=by
   rcases List.mem_cons.1 ((h x).1 (List.mem_cons_self ..))with e|e
   ·exact e
   ·rcases List.mem_cons.1 ((h y).2 (List.mem_cons_self ..))with e2|e2
    ·exact e2.symm
    ·exact absurd (qh8 (b1 x e) (a1 y e2)) (qch _)
  subst e;refine congrArg (x:: ·) (qnI s t a2 b2 fun z=>⟨fun hz=>?_,fun hz=>?_⟩)
  ·rcases List.mem_cons.1 ((h z).1 (List.mem_cons_of_mem _ hz))with e|e
   ·subst e;exact absurd (a1 z hz) (qch _)
   ·exact e
  ·rcases List.mem_cons.1 ((h z).2 (List.mem_cons_of_mem _ hz))with e|e
   ·subst e;exact absurd (b1 z hz) (qch _)
   ·exact e
theorem qke (x z:Lb) (ls:List Lb):z∈qjX x ls↔z=x∨z∈ls:=by
 induction ls with
 |nil=>simp[qjX]
 |cons y t ih=>
  rw[qjX]
  split
  ·rw[List.mem_cons,ih,List.mem_cons];constructor
   ·intro h;rcases h with h|h|h
    ·exact .inr (.inl h)
    ·exact .inl h
    ·exact .inr (.inr h)
   ·intro h;rcases h with h|h|h
    ·exact .inr (.inl h)
    ·exact .inl h
    ·exact .inr (.inr h)
  ·rw[List.mem_cons]
theorem qgL (ls:List Lb) (z:Lb):z∈srt ls↔z∈ls:=by
 induction ls with
 |nil=>simp[srt]
 |cons x t ih=>
  show z∈qjX x (srt t)↔_;rw[qke,ih,List.mem_cons]
theorem qoj (x:Lb) (ls:List Lb) (h:Inc ls) (hn: ∀y∈ls,y.1≠x.1):Inc (qjX x ls):=by
 induction ls with
 |nil=>exact List.pairwise_singleton _ _
 |cons y t ih=>
  obtain⟨h1,h2⟩:=List.pairwise_cons.1 h;rw[qjX]
  split
  ·rename_i g
   refine List.pairwise_cons.2 ⟨fun z hz=>?_,ih h2 (fun z hz=>hn z (List.mem_cons_of_mem _ hz))⟩;rcases(qke x z t).1 hz with rfl|hz
   ·exact g
   ·exact h1 z hz
  ·rename_i g
   have hxy:x.1<y.1:=by
    rcases qhp x.1 y.1 with g2|g2|g2
    ·exact g2
    ·exact absurd g2.symm (hn y (List.mem_cons_self ..))
    ·exact absurd g2 g
   refine List.pairwise_cons.2 ⟨fun z hz=>?_,h⟩;rcases List.mem_cons.1 hz with rfl|hz
   ·exact hxy
   ·exact qh8 hxy (h1 z hz)
theorem qgg (ls:List Lb) (h:qaN ls=false):Inc (srt ls):=by
 induction ls with
 |nil=>exact List.Pairwise.nil
 |cons x t ih=>
  rw[qaN,Bool.or_eq_false_iff] at h;refine qoj x _ (ih h.2) fun y hy e=>?_
  have:=(qdl t x.1).2 ⟨y,(qgL t y).1 hy,e⟩;rw[h.1] at this;cases this
def qfs:List Lb→Bool
 | []=>false
 | [_]=>false
 |x::y::t=>(x.1==y.1)||qfs (y::t)
def qso (ls:List Lb):Prop:=ls.Pairwise (fun x y=> ¬y.1<x.1)
theorem qou (ls:List Lb) (h:qr3 ls):qso ls:=by
 unfold qso;rw[List.pairwise_iff_getElem];intro i j hi hj hij;have:=h i j hij hj;rw[List.getD_eq_getElem?_getD,List.getElem?_eq_getElem hj,List.getD_eq_getElem?_getD,List.getElem?_eq_getElem hi] at this;exact this
theorem qju: ∀ls:List Lb,qso ls→qfs ls=false→Inc ls
 | [],_,_=>List.Pairwise.nil
 | [x],_,_=>List.pairwise_singleton _ _
 |x::y::t,h,ha=>by
  rw[qfs,Bool.or_eq_false_iff] at ha;obtain⟨h1,h2⟩:=List.pairwise_cons.1 h;have ih:=qju (y::t) h2 ha.2
  have hxy:x.1<y.1:=by
   rcases qhp x.1 y.1 with g2|g2|g2
   ·exact g2
   ·exact absurd g2 (by simpa using ha.1)
   ·exact absurd g2 (h1 y (List.mem_cons_self ..))
  refine List.pairwise_cons.2 ⟨fun z hz=>?_,ih⟩;rcases List.mem_cons.1 hz with rfl|hz
  ·exact hxy
  ·exact qh8 hxy ((List.pairwise_cons.1 ih).1 z hz)
theorem qiO (ls:List Lb) (h:Inc ls):qaN ls=false:=by
 induction ls with
 |nil=>rfl
 |cons x t ih=>
  obtain⟨h1,h2⟩:=List.pairwise_cons.1 h;rw[qaN,ih h2,Bool.or_false,←Bool.not_eq_true,qdl];rintro⟨y,hy,e⟩;have:=h1 y hy;rw[e] at this;exact qch _ this
theorem qi6: ∀ls:List Lb,Inc ls→qfs ls=false
 | [],_=>rfl
 | [x],_=>rfl
 |x::y::t,h=>by
  obtain⟨h1,h2⟩:=List.pairwise_cons.1 h;rw[qfs,qi6 (y::t) h2,Bool.or_false,beq_eq_false_iff_ne];intro e;have:=h1 y (List.mem_cons_self ..);rw[e] at this;exact qch _ this
theorem qcE {a b:List Lb} (h:a.Perm b):qaN a=qaN b:=by
 have:=(h.map Prod.fst).nodup_iff
 cases ha:qaN a with
 |false=>exact((qa1 b).2 (this.1 ((qa1 a).1 ha))).symm
 |true=>
  cases hb:qaN b with
  |true=>rfl
  |false=>rw[(qa1 a).2 (this.2 ((qa1 b).1 hb))] at ha;cases ha
theorem qfA {ls ls':List Lb} (hp:ls'.Perm ls) (hs:qr3 ls'):qfs ls'=qaN ls∧(qfs ls'=false→ls'=srt ls):=by
 have h2:=qou ls' hs
 have key:qfs ls'=false→qaN ls=false∧ls'=srt ls:=fun ha=>by
  have hi:=qju ls' h2 ha;have ht:qaN ls=false:=by rw[←qcE hp];exact qiO _ hi
  exact⟨ht,qnI _ _ hi (qgg ls ht) (fun x=>by rw[qgL];exact hp.mem_iff)⟩
 refine⟨?_,fun ha=>(key ha).2⟩
 cases ha:qfs ls' with
 |false=>exact(key ha).1.symm
 |true=>
  cases ht:qaN ls with
  |true=>rfl
  |false=>
   have hi:Inc ls':=by
    have h3:=(qa1 ls').1 (by rw[qcE hp];exact ht);refine(List.pairwise_map.1 h3).imp₂ ?_ h2;intro a b hne hle;rcases qhp a.1 b.1 with g2|g2|g2
    ·exact g2
    ·exact absurd g2 hne
    ·exact absurd g2 hle
   rw[qi6 _ hi] at ha;cases ha
end Go.Proofs.YtdeimnnpcfncpaaGreatDoor.X
end
section
namespace Go.Proofs.YtdeimnnpcfncpaaGreatDoor
open Go Go.RowKit
def qqV (l:List UInt8):Nat:=if l=[45,73,110,102] then 18442240474082181120 else if l=[78,97,78] then 9221120237041090561 else 9218868437227405312
def qrG (l:List UInt8) (v e:Int):Prop:=
 (1200<l.length∧v=0∧e=3)∨(l.length≤1200∧qbv l=true∧v=(qqV l:Int)∧e=0)∨(l.length≤1200∧qbv l=false∧qaQ l=false∧v=0∧e=210)∨
   (l.length≤1200∧qbv l=false∧qaQ l=true∧e=0∧ ∃r:Nat,qbe (qlQ l) (ql1 l) r∧v=((sgw (ngL l)+r:Nat):Int))
def qr1 (l:List UInt8) (w:World) (x:Ending) (w':World):Prop:=
 Below w.heap.size w w'∧ ∃v e,qrG l v e∧x= .returned (.tuple #[.int .u64 v,.int .i64 e])
theorem qpe (l:List UInt8) (h:qbv l=true):l=[73,110,102]∨l=[43,73,110,102]∨l=[45,73,110,102]∨l=[78,97,78]:=by
 unfold qbv at h;simp only[Bool.or_eq_true,beq_iff_eq] at h;rcases h with ((h|h)|h)|h
 ·exact .inl h
 ·exact .inr (.inl h)
 ·exact .inr (.inr (.inl h))
 ·exact .inr (.inr (.inr h))
theorem qjG (s:ByteArray) (hs:s.size≤1200) (hn:qbv s.data.toList=true) (w:World):Calls Tryz.prog 73 #[.string s] w (qiC (qqV s.data.toList:Int) 0 w):=by
 have u1:decide ((1200:Int)<(s.size:Int))=false:=dF (by omega);have u2:decide (1200<s.size)=false:=dF (by omega);have hc:=qpe _ hn;clear hn;obtain⟨l,hlE⟩: ∃l,l=s.data.toList:=⟨_,rfl⟩;rw[←hlE] at hc⊢;have hst:s.toList=l:=by rw[hlE];exact ByteArray.toList_eq s
 clear hlE;rcases hc with rfl|rfl|rfl|rfl
 ·have e1:(s.toList==[73,110,102])=true:=by rw[hst];rfl
  clear hst;go_enter Tryz.func73,Tryz.ntmps73;go_wp2_with fail;go_ret2;exact⟨rfl,Below.refl _ _⟩
 ·have e1:(s.toList==[73,110,102])=false:=by rw[hst];rfl
  have e2:(s.toList==[43,73,110,102])=true:=by rw[hst];rfl
  clear hst;go_enter Tryz.func73,Tryz.ntmps73;go_wp2_with fail;go_ret2;exact⟨rfl,Below.refl _ _⟩
 ·have e1:(s.toList==[73,110,102])=false:=by rw[hst];rfl
  have e2:(s.toList==[43,73,110,102])=false:=by rw[hst];rfl
  have e3:(s.toList==[45,73,110,102])=true:=by rw[hst];rfl
  clear hst;go_enter Tryz.func73,Tryz.ntmps73;go_wp2_with fail;go_ret2;exact⟨rfl,Below.refl _ _⟩
 ·have e1:(s.toList==[73,110,102])=false:=by rw[hst];rfl
  have e2:(s.toList==[43,73,110,102])=false:=by rw[hst];rfl
  have e3:(s.toList==[45,73,110,102])=false:=by rw[hst];rfl
  have e4:(s.toList==[78,97,78])=true:=by rw[hst];rfl
  clear hst;go_enter Tryz.func73,Tryz.ntmps73;go_wp2_with fail;go_ret2;exact⟨rfl,Below.refl _ _⟩
theorem qll (s:ByteArray) (hs:s.size≤780∨1200<s.size) (w:World) (hG:qnd w):Calls Tryz.prog 73 #[.string s] w (qr1 s.data.toList w):=by
 have hlen:=qau s;have fin: ∀v e,qrG s.data.toList v e→Calls Tryz.prog 73 #[.string s] w (qiC v e w)→Calls Tryz.prog 73 #[.string s] w (qr1 s.data.toList w):=fun v e h c=>c.mono fun x w' ⟨h1,h2⟩=>⟨h2,v,e,h,h1⟩
 by_cases hb:1200<s.size
 ·exact fin _ _ (.inl ⟨by omega,rfl,rfl⟩) (qj0 s hb w)
 ·have h7:s.size≤780:=by omega
  cases hn:qbv s.data.toList with
  |true=>exact fin _ _ (.inr (.inl ⟨by omega,hn,rfl,rfl⟩)) (qjG s (by omega) hn w)
  |false=>
   cases hr:qaQ s.data.toList with
   |false=>exact fin _ _ (.inr (.inr (.inl ⟨by omega,hn,hr,rfl,rfl⟩))) (qlx s (by omega) hn hr w)
   |true=>
    obtain⟨r,h⟩:=qoy (qlQ s.data.toList) (ql1 s.data.toList);exact fin _ _ (.inr (.inr (.inr ⟨by omega,hn,hr,rfl,r,h,rfl⟩))) (qiw s h7 hn hr r h w hG)
end Go.Proofs.YtdeimnnpcfncpaaGreatDoor
end
section
namespace Go.Proofs.YtdeimnnpcfncpaaGreatDoor.X
open Go Go.RowKit
noncomputable def qrK (n:Nat) (p:Int):Nat:=Classical.choose (qoy n p)
theorem qg3 {n:Nat} {p:Int} {r:Nat} (h:qbe n p r):qrK n p=r:=qgj (Classical.choose_spec (qoy n p)) h
noncomputable def qgd (l:List UInt8):Option Nat:=
 if 1200<l.length then none else if qbv l=true then some (qqV l) else if qaQ l=true then some (sgw (ngL l)+qrK (qlQ l) (ql1 l)) else none
structure Smp where
 ls:List Lb
 bits:Nat
 st:Bool
 t:Int
def qaL:Smp:=⟨[],0,false,0⟩
def qic (all:List Lb) (bits:Nat) (st:Bool) (t:Int):Int×Smp:=
 if (ofF all).1=0 then (0,⟨(ofF all).2,bits,st,t⟩) else ((ofF all).1,qaL)
def qfB (all:List Lb) (bits:Nat) (d:List UInt8):Int×Smp:=
 if d=[] then qic all bits false 0
 else match qlb (wd d)with
  |none=>(234,qaL)
  |some n=>if tb (wr d)=[] then qic all bits true n else (235,qaL)
noncomputable def qdp (all:List Lb) (c:List UInt8):Int×Smp:=
 match qgd (wd c)with
 |none=>(233,qaL)
 |some bits=>qfB all bits (tb (wr c))
noncomputable def qaB (l:List UInt8):Int×Smp:=
 if 65536<l.length then (3,qaL)
 else if qaj 58 (nm 58 (tb l))=true then
  (if ((tb (nr 58 (tb l))).head?==some 123)=true then
    (if (qcu (tb (nr 58 (tb l))).tail).1=0 then qdp ((qag,nm 58 (tb l))::(qcu (tb (nr 58 (tb l))).tail).2.1) (tb (qcu (tb (nr 58 (tb l))).tail).2.2) else ((qcu (tb (nr 58 (tb l))).tail).1,qaL))
   else qdp [(qag,nm 58 (tb l))] (tb (tb (nr 58 (tb l)))))
 else (230,qaL)
def qf4 (l:List UInt8):List UInt8:=
 if ((tb (nr 58 (tb l))).head?==some 123)=true then wd (tb (qcu (tb (nr 58 (tb l))).tail).2.2) else wd (tb (tb (nr 58 (tb l))))
def qaI (s:Smp):Bool:=qav s.ls&&(qaj 58 (qaV s.ls qag)&&((!(Go.Proofs.YtdeimnnpcfncpaaGreatDoor.kindN s.bits==4)||(s.bits==9221120237041090561))&&(s.st||(s.t==0))))
def lbT (x:Lb):List UInt8:=x.1++(61::(34::L.quL x.2++[34]))
def qe2:List (List UInt8)→List UInt8
 | []=>[]
 | [a]=>a
 |a::b::t=>a++(44::qe2 (b::t))
def qdA (s:Smp):List UInt8:=
 let o:=s.ls.filter (fun x=>!(x.1==qag))
 qaV s.ls qag++((if o=[] then [] else 123::(qe2 (o.map lbT)++[125]))++(32::(qay s.bits++(if s.st then 32::Lib.itoa s.t else []))))
def qbK (s:Smp):Int×List UInt8:=if qaI s=true then (if 65536<(qdA s).length then (3,[]) else (0,qdA s)) else (239,[])
end Go.Proofs.YtdeimnnpcfncpaaGreatDoor.X
end
