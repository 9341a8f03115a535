/- Parts of the proof: B0 GE NG NH B1. -/
import Derived.Test.YtdeimnnpcfncpaaGreatDoorCR22
import Derived.Test.YtdeimnnpcfncpaaGreatDoorCR31
set_option linter.unusedVariables false
set_option linter.unusedSimpArgs false
set_option maxRecDepth 100000
set_option maxHeartbeats 64000000
section
namespace Go.Proofs.YtdeimnnpcfncpaaGreatDoor.X
open Go Go.RowKit
theorem qhg (a b:List UInt8):a<b∨a=b∨b<a:=by
 by_cases h:a<b
 ·exact .inl h
 ·by_cases k:b<a
  ·exact .inr (.inr k)
  ·exact .inr (.inl (qsJ h k))
def qaB:List Lb→Int
 | []=>0
 |x::t=>if qcI x=0 then qaB t else qcI x
def qp8 (x:Lb):List Lb→List Lb
 | []=>[x]
 |y::t=>if y.1<x.1 then y::qp8 x t else x::y::t
def srt (ls:List Lb):List Lb:=ls.foldr qp8 []
def qaF:List Lb→Bool
 | []=>false
 |x::t=>qbM t x.1||qaF t
def ofF (ls:List Lb):Int×List Lb:=
 if qaB ls=0 then
  if qaF ls=true then (43,[])
  else if 64<((srt ls).filter (fun x=>!emp x)).length then (5,[]) else (0,(srt ls).filter (fun x=>!emp x))
 else (qaB ls,[])
theorem qdb (ls:List Lb) (n:List UInt8):qbM ls n=true↔ ∃x∈ls,x.1=n:=by
 unfold qbM;rw[List.any_eq_true];simp
theorem qbv (ls:List Lb):qaF ls=false↔(ls.map Prod.fst).Nodup:=by
 induction ls with
 |nil=>simp[qaF]
 |cons x t ih=>
  rw[List.map_cons,List.nodup_cons,←ih,qaF,Bool.or_eq_false_iff]
  have:qbM t x.1=false↔x.1∉t.map Prod.fst:=by
   rw[←Bool.not_eq_true,qdb,List.mem_map]
  rw[this]
def Inc (ls:List Lb):Prop:=ls.Pairwise (fun x y=>x.1<y.1)
theorem qlC: ∀a b:List Lb,Inc a→Inc b→(∀x,x∈a↔x∈b)→a=b
 | [],[],_,_,_=>rfl
 | [],y::t,_,_,h=>by have:=(h y).2 (List.mem_cons_self ..);cases this
 |x::s,[],_,_,h=>by have:=(h x).1 (List.mem_cons_self ..);cases this
 |x::s,y::t,ha,hb,h=>by
  obtain⟨a1,a2⟩:=List.pairwise_cons.1 ha;obtain⟨b1,b2⟩:=List.pairwise_cons.1 hb
  have e:x=y:=by
   rcases List.mem_cons.1 ((h x).1 (List.mem_cons_self ..))with e|e
   ·exact e
   ·rcases List.mem_cons.1 ((h y).2 (List.mem_cons_self ..))with e2|e2
    ·exact e2.symm
    ·exact absurd (qhV (b1 x e) (a1 y e2)) (qcK _)
  subst e;refine congrArg (x:: ·) (qlC s t a2 b2 fun z=>⟨fun hz=>?_,fun hz=>?_⟩)
  ·rcases List.mem_cons.1 ((h z).1 (List.mem_cons_of_mem _ hz))with e|e
   ·subst e;exact absurd (a1 z hz) (qcK _)
   ·exact e
  ·rcases List.mem_cons.1 ((h z).2 (List.mem_cons_of_mem _ hz))with e|e
   ·subst e;exact absurd (b1 z hz) (qcK _)
   ·exact e
theorem qnh (x z:Lb) (ls:List Lb):z∈qp8 x ls↔z=x∨z∈ls:=by
 induction ls with
 |nil=>simp[qp8]
 |cons y t ih=>
  rw[qp8]
  split
  ·rw[List.mem_cons,ih,List.mem_cons];constructor
   ·intro h;rcases h with h|h|h
    ·exact .inr (.inl h)
    ·exact .inl h
    ·exact .inr (.inr h)
   ·intro h;rcases h with h|h|h
    ·exact .inr (.inl h)
    ·exact .inl h
    ·exact .inr (.inr h)
  ·rw[List.mem_cons]
theorem qgw (ls:List Lb) (z:Lb):z∈srt ls↔z∈ls:=by
 induction ls with
 |nil=>simp[srt]
 |cons x t ih=>
  show z∈qp8 x (srt t)↔_;rw[qnh,ih,List.mem_cons]
theorem qqQ (x:Lb) (ls:List Lb) (h:Inc ls) (hn: ∀y∈ls,y.1≠x.1):Inc (qp8 x ls):=by
 induction ls with
 |nil=>exact List.pairwise_singleton _ _
 |cons y t ih=>
  obtain⟨h1,h2⟩:=List.pairwise_cons.1 h;rw[qp8]
  split
  ·rename_i g
   refine List.pairwise_cons.2 ⟨fun z hz=>?_,ih h2 (fun z hz=>hn z (List.mem_cons_of_mem _ hz))⟩;rcases(qnh x z t).1 hz with rfl|hz
   ·exact g
   ·exact h1 z hz
  ·rename_i g
   have hxy:x.1<y.1:=by
    rcases qhg x.1 y.1 with g2|g2|g2
    ·exact g2
    ·exact absurd g2.symm (hn y (List.mem_cons_self ..))
    ·exact absurd g2 g
   refine List.pairwise_cons.2 ⟨fun z hz=>?_,h⟩;rcases List.mem_cons.1 hz with rfl|hz
   ·exact hxy
   ·exact qhV hxy (h1 z hz)
theorem qh0 (ls:List Lb) (h:qaF ls=false):Inc (srt ls):=by
 induction ls with
 |nil=>exact List.Pairwise.nil
 |cons x t ih=>
  rw[qaF,Bool.or_eq_false_iff] at h;refine qqQ x _ (ih h.2) fun y hy e=>?_
  have:=(qdb t x.1).2 ⟨y,(qgw t y).1 hy,e⟩;rw[h.1] at this;cases this
def qg2:List Lb→Bool
 | []=>false
 | [_]=>false
 |x::y::t=>(x.1==y.1)||qg2 (y::t)
def qvZ (ls:List Lb):Prop:=ls.Pairwise (fun x y=> ¬y.1<x.1)
theorem qs8 (ls:List Lb) (h:qvv ls):qvZ ls:=by
 unfold qvZ;rw[List.pairwise_iff_getElem];intro i j hi hj hij;have:=h i j hij hj;rw[gZd,gZq hj,gZd,gZq hi] at this;exact this
theorem qlK: ∀ls:List Lb,qvZ ls→qg2 ls=false→Inc ls
 | [],_,_=>List.Pairwise.nil
 | [x],_,_=>List.pairwise_singleton _ _
 |x::y::t,h,ha=>by
  rw[qg2,Bool.or_eq_false_iff] at ha;obtain⟨h1,h2⟩:=List.pairwise_cons.1 h;have ih:=qlK (y::t) h2 ha.2
  have hxy:x.1<y.1:=by
   rcases qhg x.1 y.1 with g2|g2|g2
   ·exact g2
   ·exact absurd g2 (by simpa using ha.1)
   ·exact absurd g2 (h1 y (List.mem_cons_self ..))
  refine List.pairwise_cons.2 ⟨fun z hz=>?_,ih⟩;rcases List.mem_cons.1 hz with rfl|hz
  ·exact hxy
  ·exact qhV hxy ((List.pairwise_cons.1 ih).1 z hz)
theorem qlv (ls:List Lb) (h:Inc ls):qaF ls=false:=by
 induction ls with
 |nil=>rfl
 |cons x t ih=>
  obtain⟨h1,h2⟩:=List.pairwise_cons.1 h;rw[qaF,ih h2,Bool.or_false,←Bool.not_eq_true,qdb];rintro⟨y,hy,e⟩;have:=h1 y hy;rw[e] at this;exact qcK _ this
theorem qlw: ∀ls:List Lb,Inc ls→qg2 ls=false
 | [],_=>rfl
 | [x],_=>rfl
 |x::y::t,h=>by
  obtain⟨h1,h2⟩:=List.pairwise_cons.1 h;rw[qg2,qlw (y::t) h2,Bool.or_false,beq_eq_false_iff_ne];intro e;have:=h1 y (List.mem_cons_self ..);rw[e] at this;exact qcK _ this
theorem qdJ {a b:List Lb} (h:a.Perm b):qaF a=qaF b:=by
 have:=(h.map Prod.fst).nodup_iff
 cases ha:qaF a with
 |false=>exact((qbv b).2 (this.1 ((qbv a).1 ha))).symm
 |true=>
  cases hb:qaF b with
  |true=>rfl
  |false=>rw[(qbv a).2 (this.2 ((qbv b).1 hb))] at ha;cases ha
theorem qmv {ls ls':List Lb} (hp:ls'.Perm ls) (hs:qvv ls'):qg2 ls'=qaF ls∧(qg2 ls'=false→ls'=srt ls):=by
 have h2:=qs8 ls' hs
 have key:qg2 ls'=false→qaF ls=false∧ls'=srt ls:=fun ha=>by
  have hi:=qlK ls' h2 ha;have ht:qaF ls=false:=by rw[←qdJ hp];exact qlv _ hi
  exact⟨ht,qlC _ _ hi (qh0 ls ht) (fun x=>by rw[qgw];exact hp.mem_iff)⟩
 refine⟨?_,fun ha=>(key ha).2⟩
 cases ha:qg2 ls' with
 |false=>exact(key ha).1.symm
 |true=>
  cases ht:qaF ls with
  |true=>rfl
  |false=>
   have hi:Inc ls':=by
    have h3:=(qbv ls').1 (by rw[qdJ hp];exact ht);refine(List.pairwise_map.1 h3).imp₂ ?_ h2;intro a b hne hle;rcases qhg a.1 b.1 with g2|g2|g2
    ·exact g2
    ·exact absurd g2 hne
    ·exact absurd g2 hle
   rw[qlw _ hi] at ha;cases ha
end Go.Proofs.YtdeimnnpcfncpaaGreatDoor.X
end
section
namespace Go.Proofs.YtdeimnnpcfncpaaGreatDoor
open Go Go.RowKit
theorem qdv (l:List UInt8) (hl:qaQ l): ∀v,l.foldl (fun v c=>if c=46 then v else v*10+(c.toNat - 48)) v=v*10^l.length+qas l:=by
 induction l with
 |nil=>intro v;show v=v*1+0;omega
 |cons c t ih=>
  intro v;have hc:=hl c (List.mem_cons_self ..);rw[List.foldl_cons,if_neg (fun e=>by rw[e] at hc;exact absurd hc (by decide)),ih (fun x hx=>hl x (List.mem_cons_of_mem _ hx)),qaS,List.length_cons,Nat.pow_succ,Nat.add_mul,Nat.mul_assoc,Nat.mul_comm 10,Nat.add_assoc]
theorem qr0 (W T:List UInt8) (hW:qaQ W) (hT:qaQ T):mvF (W++46::T)=qas (W++T):=by
 unfold mvF;rw[List.foldl_append,qdv W hW,List.foldl_cons,if_pos rfl,qdv T hT,Nat.zero_mul,Nat.zero_add,qa6]
theorem qiD (T:List UInt8) (hT:qaQ T): ∀m:MS,(T.foldl qaC m).dot=m.dot∧(m.dot=true→(T.foldl qaC m).dp - ((T.foldl qaC m).nd:Int)=m.dp - (m.nd:Int) - T.length):=by
 induction T with
 |nil=>intro m;exact⟨rfl,fun _=>by show m.dp - _=_;simp⟩
 |cons c t ih=>
  intro m;have hc:=hT c (List.mem_cons_self ..);have h46:c≠46:=fun e=>by rw[e] at hc;exact absurd hc (by decide)
  obtain⟨i1,i2⟩:=ih (fun x hx=>hT x (List.mem_cons_of_mem _ hx)) (qaC m c);rw[List.foldl_cons]
  have hs:(qaC m c).dot=m.dot∧(qaC m c).dp - ((qaC m c).nd:Int)=m.dp - (m.nd:Int) - 1:=by
   unfold qaC;rw[if_neg h46]
   split
   ·exact⟨rfl,by show m.dp - 1 - (m.nd:Int)=_;omega⟩
   ·split
    ·exact⟨rfl,by show m.dp - ((m.nd+1:Nat):Int)=_;omega⟩
    ·exact⟨rfl,by show m.dp - ((m.nd+1:Nat):Int)=_;omega⟩
  refine⟨i1.trans hs.1,fun h=>?_⟩;rw[i2 (hs.1.trans h),hs.2,List.length_cons];omega
theorem qsF (W T:List UInt8) (hT:qaQ T) (E:Int):xpt (qby (W++46::T)) E=E - T.length:=by
 have e:qby (W++46::T)=T.foldl qaC (qaC (qby W) 46):=by
  unfold qby;rw[List.foldl_append,List.foldl_cons]
 obtain⟨h1,h2⟩:=qiD T hT (qaC (qby W) 46);have hd:(qaC (qby W) 46).dot=true:=rfl
 have hp:(qaC (qby W) 46).dp - ((qaC (qby W) 46).nd:Int)=0:=by
  show((qby W).nd:Int) - ((qby W).nd:Int)=0;omega
 rw[e];unfold xpt;rw[h1,hd,if_pos rfl];have:=h2 hd;omega
def qtn (l:List UInt8):Nat:=if l=[45,73,110,102] then 18442240474082181120 else if l=[78,97,78] then 9221120237041090561 else 9218868437227405312
def qu7 (l:List UInt8) (v e:Int):Prop:=
 (1200<l.length∧v=0∧e=3)∨(l.length≤1200∧qbz l=true∧v=(qtn l:Int)∧e=0)∨(l.length≤1200∧qbz l=false∧qau l=false∧v=0∧e=210)∨
   (l.length≤1200∧qbz l=false∧qau l=true∧e=0∧ ∃r:Nat,qaW (qkd l) (qj3 l) r∧v=((sgw (ngL l)+r:Nat):Int))
def qrf (l:List UInt8) (w:World) (x:Ending) (w':World):Prop:=
 Below w.heap.size w w'∧ ∃v e,qu7 l v e∧x= .returned (.tuple #[.int .u64 v,.int .i64 e])
theorem qik (l:List UInt8) (h:qbz l=true):l=[73,110,102]∨l=[43,73,110,102]∨l=[45,73,110,102]∨l=[78,97,78]:=by
 unfold qbz at h;simp only[Bool.or_eq_true,beq_iff_eq] at h;rcases h with ((h|h)|h)|h
 ·exact .inl h
 ·exact .inr (.inl h)
 ·exact .inr (.inr (.inl h))
 ·exact .inr (.inr (.inr h))
theorem qlB (s:ByteArray) (hs:s.size≤1200) (hn:qbz s.data.toList=true) (w:World):Calls Tryz.prog 73 #[.string s] w (qko (qtn s.data.toList:Int) 0 w):=by
 have u1:decide ((1200:Int)<(s.size:Int))=false:=dF (by omega);have u2:decide (1200<s.size)=false:=dF (by omega);have hc:=qik _ hn;clear hn;obtain⟨l,hlE⟩: ∃l,l=s.data.toList:=⟨_,rfl⟩;rw[←hlE] at hc⊢;have hst:s.toList=l:=by rw[hlE];exact ByteArray.toList_eq s
 clear hlE;rcases hc with rfl|rfl|rfl|rfl
 ·have e1:(s.toList==[73,110,102])=true:=by rw[hst];rfl
  clear hst;go_enter Tryz.func73,Tryz.ntmps73;go_wp2_with fail;go_ret2;exact⟨rfl,Below.refl _ _⟩
 ·have e1:(s.toList==[73,110,102])=false:=by rw[hst];rfl
  have e2:(s.toList==[43,73,110,102])=true:=by rw[hst];rfl
  clear hst;go_enter Tryz.func73,Tryz.ntmps73;go_wp2_with fail;go_ret2;exact⟨rfl,Below.refl _ _⟩
 ·have e1:(s.toList==[73,110,102])=false:=by rw[hst];rfl
  have e2:(s.toList==[43,73,110,102])=false:=by rw[hst];rfl
  have e3:(s.toList==[45,73,110,102])=true:=by rw[hst];rfl
  clear hst;go_enter Tryz.func73,Tryz.ntmps73;go_wp2_with fail;go_ret2;exact⟨rfl,Below.refl _ _⟩
 ·have e1:(s.toList==[73,110,102])=false:=by rw[hst];rfl
  have e2:(s.toList==[43,73,110,102])=false:=by rw[hst];rfl
  have e3:(s.toList==[45,73,110,102])=false:=by rw[hst];rfl
  have e4:(s.toList==[78,97,78])=true:=by rw[hst];rfl
  clear hst;go_enter Tryz.func73,Tryz.ntmps73;go_wp2_with fail;go_ret2;exact⟨rfl,Below.refl _ _⟩
theorem qpG (s:ByteArray) (hs:s.size≤780∨1200<s.size) (w:World) (hG:qqD w):Calls Tryz.prog 73 #[.string s] w (qrf s.data.toList w):=by
 have hlen:=qat s;have fin: ∀v e,qu7 s.data.toList v e→Calls Tryz.prog 73 #[.string s] w (qko v e w)→Calls Tryz.prog 73 #[.string s] w (qrf s.data.toList w):=fun v e h c=>c.mono fun x w' ⟨h1,h2⟩=>⟨h2,v,e,h,h1⟩
 by_cases hb:1200<s.size
 ·exact fin _ _ (.inl ⟨by omega,rfl,rfl⟩) (qm8 s hb w)
 ·have h7:s.size≤780:=by omega
  cases hn:qbz s.data.toList with
  |true=>exact fin _ _ (.inr (.inl ⟨by omega,hn,rfl,rfl⟩)) (qlB s (by omega) hn w)
  |false=>
   cases hr:qau s.data.toList with
   |false=>exact fin _ _ (.inr (.inr (.inl ⟨by omega,hn,hr,rfl,rfl⟩))) (qoN s (by omega) hn hr w)
   |true=>
    obtain⟨r,h⟩:=qpj (qkd s.data.toList) (qj3 s.data.toList);exact fin _ _ (.inr (.inr (.inr ⟨by omega,hn,hr,rfl,r,h,rfl⟩))) (qj7 s h7 hn hr r h w hG)
end Go.Proofs.YtdeimnnpcfncpaaGreatDoor
end
section
namespace Go.Proofs.YtdeimnnpcfncpaaGreatDoor.X
open Go Go.RowKit
noncomputable def qsh (n:Nat) (p:Int):Nat:=Classical.choose (qpj n p)
theorem qfT {n:Nat} {p:Int} {r:Nat} (h:qaW n p r):qsh n p=r:=qh7 (Classical.choose_spec (qpj n p)) h
theorem qjP (n:Nat) (p:Int):qaW n p (qsh n p):=Classical.choose_spec (qpj n p)
noncomputable def qd1 (l:List UInt8):Option Nat:=
 if 1200<l.length then none else if qbz l=true then some (qtn l) else if qau l=true then some (sgw (ngL l)+qsh (qkd l) (qj3 l)) else none
structure Smp where
 ls:List Lb
 bits:Nat
 st:Bool
 t:Int
def qaP:Smp:=⟨[],0,false,0⟩
def qcu (all:List Lb) (bits:Nat) (st:Bool) (t:Int):Int×Smp:=
 if (ofF all).1=0 then (0,⟨(ofF all).2,bits,st,t⟩) else ((ofF all).1,qaP)
def qb7 (all:List Lb) (bits:Nat) (d:List UInt8):Int×Smp:=
 if d=[] then qcu all bits false 0
 else match qfB (wd d)with
  |none=>(234,qaP)
  |some n=>if tb (wr d)=[] then qcu all bits true n else (235,qaP)
noncomputable def qb3 (all:List Lb) (c:List UInt8):Int×Smp:=
 match qd1 (wd c)with
 |none=>(233,qaP)
 |some bits=>qb7 all bits (tb (wr c))
noncomputable def qan (l:List UInt8):Int×Smp:=
 if 65536<l.length then (3,qaP)
 else if qam 58 (nm 58 (tb l))=true then
  (if ((tb (nr 58 (tb l))).head?==some 123)=true then
    (if (qcj (tb (nr 58 (tb l))).tail).1=0 then qb3 ((qah,nm 58 (tb l))::(qcj (tb (nr 58 (tb l))).tail).2.1) (tb (qcj (tb (nr 58 (tb l))).tail).2.2) else ((qcj (tb (nr 58 (tb l))).tail).1,qaP))
   else qb3 [(qah,nm 58 (tb l))] (tb (tb (nr 58 (tb l)))))
 else (230,qaP)
def qeY (l:List UInt8):List UInt8:=
 if ((tb (nr 58 (tb l))).head?==some 123)=true then wd (tb (qcj (tb (nr 58 (tb l))).tail).2.2) else wd (tb (tb (nr 58 (tb l))))
def qbj (s:Smp):Bool:=qbu s.ls&&(qam 58 (qbs s.ls qah)&&((!(Go.Proofs.YtdeimnnpcfncpaaGreatDoor.kindN s.bits==4)||(s.bits==9221120237041090561))&&(s.st||(s.t==0))))
def lbT (x:Lb):List UInt8:=x.1++(61::(34::L.quL x.2++[34]))
def qg6:List (List UInt8)→List UInt8
 | []=>[]
 | [a]=>a
 |a::b::t=>a++(44::qg6 (b::t))
def qh6 (s:Smp):List UInt8:=
 let o:=s.ls.filter (fun x=>!(x.1==qah))
 qbs s.ls qah++((if o=[] then [] else 123::(qg6 (o.map lbT)++[125]))++(32::(qaw s.bits++(if s.st then 32::Lib.itoa s.t else []))))
def qm9 (s:Smp):Int×List UInt8:=if qbj s=true then (if 65536<(qh6 s).length then (3,[]) else (0,qh6 s)) else (239,[])
end Go.Proofs.YtdeimnnpcfncpaaGreatDoor.X
end
