/- Parts of the proof: U1 UB KS OA OS. -/
import Derived.Lib.MapLaws
import Derived.Lib.QuoteLoop
import Derived.Lib.ReplaceLaws
import Derived.ChangeSlices
import Derived.SliceStrings
import Derived.Test.YtdeimnnpcfncpaaGreatDoorCY46
set_option linter.unusedVariables false
set_option linter.unusedSimpArgs false
set_option maxRecDepth 100000
set_option maxHeartbeats 64000000
section
namespace Go.Proofs.YtdeimnnpcfncpaaGreatDoor.X
open Go Go.RowKit
theorem qdP (a:UInt8) (new:List UInt8) (s:List UInt8) (h:a∉s):s.flatMap (fun c=>if c=a then new else [c])=s:=by
 induction s with
 |nil=>rfl
 |cons c t ih=>
  rw[List.flatMap_cons,ih (fun hm=>h (List.mem_cons_of_mem _ hm)),if_neg (show¬c=a from fun e=>h (e▸List.mem_cons_self ..))];rfl
theorem qiV (a:UInt8) (new:List UInt8): ∀(k:Nat) (s:List UInt8),s.count a≤k→Lib.replaceK [a] new k s=s.flatMap (fun c=>if c=a then new else [c]):=by
 intro k
 induction k with
 |zero=>
  intro s h;rw[Lib.replaceK,qdP a new s (List.count_eq_zero.1 (by omega))]
 |succ k ih=>
  intro s h;have hi:=index_one s a
  by_cases hm:a∈s
  ·rw[if_pos hm] at hi;obtain⟨p,t,rfl,hp⟩:=List.eq_append_cons_of_mem hm
   have htw:(p++a::t).takeWhile (·!=a)=p:=by
    rw[List.takeWhile_append_of_pos (fun x hx=>by simpa using fun e:x=a=>hp (e▸hx))];simp
   rw[htw] at hi
   have hc:t.count a≤k:=by
    rw[List.count_append,List.count_cons_self] at h;omega
   rw[Lib.replaceK_hit [a] new k _ _ hi,List.take_left,List.flatMap_append,List.flatMap_cons,qdP a new p hp,if_pos rfl,←ih t hc,List.append_assoc]
   congr 3
   show(p++a::t).drop (p.length+1)=t;rw[←List.drop_drop,List.drop_left];rfl
  ·rw[if_neg hm] at hi;rw[Lib.replaceK,if_pos (by rw[hi];rfl),qdP a new s hm]
theorem qkE (a:UInt8) (new s:List UInt8) (hn:[a]≠new):Lib.replaceAll s [a] new=s.flatMap (fun c=>if c=a then new else [c]):=by
 unfold Lib.replaceAll Lib.replace;rw[if_neg (by simpa using hn)];unfold Lib.replaceNum;rw[if_pos (.inl (by decide)),Lib.count_one];exact qiV a new _ s (Nat.le_refl _)
theorem qho (a:UInt8) (new x:List UInt8) (hn:[a]≠new) (hx:x.length≤100000) (hw:new.length≤10) (w:World) (hG:EGlb w):
 Calls Tryz.prog 24 #[.string (BS x),.string (BS [a]),.string (BS new)] w fun e w'=>e= .returned (.string (BS (x.flatMap fun c=>if c=a then new else [c])))∧Below w.heap.size w w':=by
 obtain⟨m,hm⟩:=hG.b.m;have hz:=qac x;have hd: ∀l:List UInt8,(BS l).data.toList=l:=fun l=>by simp[BS]
 have h:=Any.strings_ReplaceAll Tryz.laysM155.ton155 Tryz.Builder_Extra_M155 (BS x) (BS [a]) (BS new) m w (by omega) hm (by rw[qac];simp) (by
  show(BS x).size+Lib.count (BS x).data.toList (BS [a]).data.toList*(BS new).size≤_;rw[hd,hd,Lib.count_one,qac,qac];have h1:=List.count_le_length (a:=a) (l:=x);have h2:=Nat.mul_le_mul h1 hw
  omega)
 rw[hd,hd,hd,qkE a new x hn] at h;exact h
section
variable {w:World} {N D:Nat} {ts hs:List Lb} {acc:List UInt8} {tv hv:Value} {W W':World}
end
end Go.Proofs.YtdeimnnpcfncpaaGreatDoor.X
end
section
namespace Go.Proofs.YtdeimnnpcfncpaaGreatDoor.X
open Go Go.RowKit Go.ChangeShapes Go.WideShapes
theorem qgL {α:Type} (n:Nat) (P:Nat→α→Prop) (h: ∀i,i<n→ ∃y,P i y): ∃l:List α,l.length=n∧ ∀i (hi:i<l.length),P i l[i]:=by
 induction n with
 |zero=>exact⟨[],rfl,fun i hi=>by simp at hi⟩
 |succ n ih=>
  obtain⟨l,h1,h2⟩:=ih (fun i hi=>h i (by omega));obtain⟨y,hy⟩:=h n (by omega);refine⟨l++[y],by simp[h1],fun i hi=>?_⟩;rw[List.getElem_append]
  split
  ·rename_i h3;exact h2 i h3
  ·rename_i h3
   have:i=n:=by simp at hi;omega
   subst this;simpa using hy
theorem qrj {a:Int} (h:(Lit.int .u64 a).wf=true): ∃n:Nat,a=(n:Int)∧n<18446744073709551616:=by
 simp[Lit.wf,IntKind.min,IntKind.max,IntKind.signed,IntKind.bits] at h;exact⟨a.toNat,by omega,by omega⟩
theorem qq0 {a:Int} (h:(Lit.int .i64 a).wf=true): -9223372036854775808≤a∧a≤9223372036854775807:=by
 simp[Lit.wf,IntKind.min,IntKind.max,IntKind.signed,IntKind.bits] at h;omega
theorem qqg:Tryz.prog.cellsOf 26=5:=by kernel_rfl
theorem qm9:Tryz.prog.cellsOf 166=2:=by kernel_rfl
theorem qjn:Tryz.prog.cellsOf 5=1:=by kernel_rfl
theorem qpT:Tryz.prog.cellsOf 23=1:=by kernel_rfl
theorem qnx:Tryz.prog.cellsOf 24=1:=by kernel_rfl
theorem qpi:Tryz.prog.cellsOf 3=1:=by kernel_rfl
theorem qo4:Tryz.prog.cellsOf 4=1:=by kernel_rfl
section
variable {H:Type} {enc:TypeId×Value→H} {w:World} {base fuel:Nat} {x:DataW H×List MemPlace}
theorem qj5 {t:TypeId} (ht:Tryz.prog.underlying t=some (.int .u8)) {cs:List Value} (h:DataW.trod enc Tryz.prog w base (fun _=>true) true fuel t cs=some x): ∃n:Nat,cs=[.int .u8 (n:Int)]∧n<256:=by
 obtain⟨n,h1,_,h2⟩:=DataW.trod_int ht h;obtain⟨m,rfl,hm⟩:=qqh h2;exact⟨m,h1,hm⟩
theorem qiM {v:Value} (h:DataW.trod enc Tryz.prog w base (fun _=>true) true fuel 23 [v]=some x): ∃(qs:List (Nat×Nat)) (a:Option Addr) (c:Nat),v= .slice a qs.length c∧qph w (.slice a qs.length c) qs∧qs.length≤c∧c≤maxLen:=by
 rcases DataW.trod_slice Tryz.underlying23 h with ⟨hcs,_⟩|⟨a,l,c,elems,rest,n,_,hcs,_,_,hl,hm,hlen,hel,_,_⟩
 ·simp at hcs;subst hcs;exact⟨[],none,0,rfl,.inl ⟨none,0,rfl,rfl⟩,Nat.le_refl _,by unfold maxLen;omega⟩
 ·simp at hcs;subst hcs
  by_cases h0:l=0
  ·subst h0;exact⟨[],some a,c,rfl,.inl ⟨some a,c,rfl,rfl⟩,hl,hm⟩
  ·have key: ∀i,i<l→ ∃p:Nat×Nat,(w.cell? (a.add (i*2))=some (.int .u8 (p.1:Int))∧w.cell? ((a.add (i*2)).add 1)=some (.int .u8 (p.2:Int)))∧p.1<256∧p.2<256:=by
    intro i hi;have h1:=hel i hi;rw[qm9,List.getElem?_eq_getElem (by omega),Option.bind_eq_some_iff] at h1;obtain⟨cs,e1,e2⟩:=h1;obtain⟨_,hcl,hat⟩:=World.cells?_some e1;obtain⟨xs,n',_,_,_,hxl,hf⟩:=DataW.trod_struct Tryz.underlying166 e2
    match cs,hcl with
    | [c0,c1],_=>
      have f0:DataW.trod enc Tryz.prog w base (fun _=>true) true n' 5 ([c0,c1].take (Tryz.prog.cellsOf 5))=xs[0]?:=hf 0 _ rfl;have f1:DataW.trod enc Tryz.prog w base (fun _=>true) true n' 5 ([c1].take (Tryz.prog.cellsOf 5))=xs[1]?:=hf 1 _ rfl;have hx:xs.length=2:=hxl;rw[qjn,List.getElem?_eq_getElem (by omega)] at f0 f1;obtain⟨p,g0,hp⟩:=qj5 Tryz.underlying5 f0;obtain⟨q,g1,hq⟩:=qj5 Tryz.underlying5 f1;simp at g0 g1;subst g0 g1;have t0:=hat 0 (by omega);have t1:=hat 1 (by omega);refine⟨(p,q),⟨?_,?_⟩,hp,hq⟩
      ·simpa [Addr.add] using t0
      ·simpa using t1
   obtain⟨qs,hr1,hr2⟩:=qgL l _ key;obtain⟨_,⟨hs0,_⟩,_⟩:=key 0 (by omega);obtain⟨b,off,spot⟩:=a;have hspot:spot=none:=by simpa [Addr.add] using World.cell?_spot hs0
   subst hspot;refine⟨qs,_,c,by rw[hr1],.inr ⟨b,off,c,by rw[hr1],?_,by omega,hm,fun i hi=>?_⟩,by omega,hm⟩
   ·obtain⟨o,ho,_⟩:=cells_of_cell hs0;have:=(Array.getElem?_eq_some_iff.1 ho).1;simpa [Addr.add] using this
   ·have:=hr2 i hi;rw[show(⟨b,off,none⟩:Addr).add (i*2)=⟨b,off+i*2,none⟩ by simp[Addr.add],show(⟨b,off+i*2,none⟩:Addr).add 1=⟨b,off+i*2+1,none⟩ by simp[Addr.add]] at this;rw[List.getD_eq_getElem?_getD,List.getElem?_eq_getElem hi];exact this
theorem qi2 {cs:List Value} (h:DataW.trod enc Tryz.prog w base (fun _=>true) true fuel 26 cs=some x): ∃(s:Sm) (lv:Value),cs=[.int .u8 (s.nm:Int),lv,.int .u64 (s.bits:Int),.int .i64 s.tm,.bool s.td]∧SmOk s∧SmV w lv s:=by
 obtain⟨xs,n',_,_,hcl,hxl,hf⟩:=DataW.trod_struct Tryz.underlying26 h;rw[qqg] at hcl
 match cs,hcl with
 | [c0,c1,c2,c3,c4],_=>
   have f0:DataW.trod enc Tryz.prog w base (fun _=>true) true n' 5 ([c0,c1,c2,c3,c4].take (Tryz.prog.cellsOf 5))=xs[0]?:=hf 0 _ rfl;have f1:DataW.trod enc Tryz.prog w base (fun _=>true) true n' 23 ([c1,c2,c3,c4].take (Tryz.prog.cellsOf 23))=xs[1]?:=hf 1 _ rfl;have f2:DataW.trod enc Tryz.prog w base (fun _=>true) true n' 24 ([c2,c3,c4].take (Tryz.prog.cellsOf 24))=xs[2]?:=hf 2 _ rfl;have f3:DataW.trod enc Tryz.prog w base (fun _=>true) true n' 3 ([c3,c4].take (Tryz.prog.cellsOf 3))=xs[3]?:=hf 3 _ rfl;have f4:DataW.trod enc Tryz.prog w base (fun _=>true) true n' 4 ([c4].take (Tryz.prog.cellsOf 4))=xs[4]?:=hf 4 _ rfl;have hx:xs.length=5:=hxl;rw[qjn,List.getElem?_eq_getElem (by omega)] at f0;rw[qpT,List.getElem?_eq_getElem (by omega)] at f1;rw[qnx,List.getElem?_eq_getElem (by omega)] at f2;rw[qpi,List.getElem?_eq_getElem (by omega)] at f3;rw[qo4,List.getElem?_eq_getElem (by omega)] at f4;obtain⟨p,g0,hp⟩:=qj5 Tryz.underlying5 f0;obtain⟨qs,a,c,g1,hq,hqc,hcm⟩:=qiM (by simpa using f1);obtain⟨b,g2,_,hb⟩:=DataW.trod_int Tryz.underlying24 f2;obtain⟨t,g3,_,ht⟩:=DataW.trod_int Tryz.underlying3 f3;obtain⟨d,g4,_⟩:=DataW.trod_bool Tryz.underlying4 f4;obtain⟨bn,rfl,hbn⟩:=qrj hb;have hti:=qq0 ht;simp at g0 g2 g3 g4;subst g0 g1 g2 g3 g4;refine⟨⟨p,bn,t,d,qs⟩,_,rfl,⟨hp,hbn,hti.1,hti.2⟩,a,c,rfl,hq,hqc,?_⟩;have:=hcm;unfold maxLen at this;show qs.length≤_;omega
end
end Go.Proofs.YtdeimnnpcfncpaaGreatDoor.X
end
section
namespace Go.Proofs.YtdeimnnpcfncpaaGreatDoor
open Go Go.RowKit Go.ChangeShapes Go.WideShapes
def qnq (cs:Array Value) (i:Nat):Int:=match cs[i]? with
 |some (Value.int _ z)=>z
 |_=>0
theorem open_arr_ints {H:Type} {enc:TypeId×Value→H} {P:Program} {w w2:World} {base base2:Nat} {r:Reach} {sp:Nat→Bool} {held:Bool} {t e:TypeId} {n:Nat} {k:IntKind} {v:Value} {d:DataW H} {p:List MemPlace}
 (ht:P.underlying t=some (.array n e)) (he:P.underlying e=some (.int k)) (hce:P.cellsOf e=1) (hct:P.cellsOf t=n)
 (hv:Value.okWide P w2 r base2 t v) (h:DataW.Trod enc P w base sp held t v d p):
 ∃zs:List Int,zs.length=n∧v= .agg (zs.map (Value.int k)).toArray∧ ∀i (hi:i<zs.length),(Lit.int k zs[i]).wf=true:=by
 have hv': ∃cs,v= .agg cs∧cs.size=P.cellsOf t:=by
  simp only[Value.okWide,ht] at hv;obtain⟨cs,h1,h2,_⟩:=hv;exact⟨cs,h1,h2⟩
 obtain⟨cs,rfl,hs⟩:=hv';obtain⟨fuel,hf⟩:=h;obtain⟨xs,m,_,_,hl,hn,hel⟩:=DataW.trod_array ht (by simpa [Value.cells] using hf)
 have hcell: ∀i,i<n→ ∃z:Int,cs[i]?=some (.int k z)∧(Lit.int k z).wf=true:=by
  intro i hi;have h1:=hel i hi;rw[hce,Nat.mul_one,List.getElem?_eq_getElem (by omega)] at h1;obtain⟨z,e1,_,e3⟩:=DataW.trod_int he h1;refine⟨z,?_,e3⟩;have:=congrArg (·[0]?) e1;simpa [List.getElem?_take,List.getElem?_drop] using this
 refine⟨(List.range n).map fun i=>qnq cs i,by simp,?_,?_⟩
 ·congr 1
  apply Array.ext
  ·simp;omega
  ·intro i h1 h2;obtain⟨z,hz,_⟩:=hcell i (by simpa using h2)
   have:cs[i]= .int k z:=by
    have:=Array.getElem?_eq_getElem h1;rw[hz] at this;exact(Option.some.inj this).symm
   have hi:qnq cs i=z:=by unfold qnq;rw[hz]
   simp[hi,this]
 ·intro i hi;obtain⟨z,hz,hw⟩:=hcell i (by simpa using hi);simpa [qnq,hz] using hw
end Go.Proofs.YtdeimnnpcfncpaaGreatDoor
end
section
namespace Go.Proofs.YtdeimnnpcfncpaaGreatDoor.X
open Go Go.RowKit Go.ChangeShapes Go.WideShapes
theorem open_small {H:Type} {enc:TypeId×Value→H} {w w2:World} {base base2:Nat} {r:Reach} {v:Value} {d:DataW H} {p:List MemPlace}
 (hv:Value.okWide Tryz.prog w2 r base2 26 v) (h:DataW.Trod enc Tryz.prog w base (fun _=>true) true 26 v d p):
 ∃(s:Sm) (lv:Value),v= .agg #[.int .u8 (s.nm:Int),lv,.int .u64 (s.bits:Int),.int .i64 s.tm,.bool s.td]∧SmOk s∧SmV w lv s:=by
 have hv': ∃cs,v= .agg cs∧cs.size=Tryz.prog.cellsOf 26:=by
  simp only[Value.okWide,Tryz.underlying26] at hv;obtain⟨cs,h1,h2,_⟩:=hv;exact⟨cs,h1,h2⟩
 obtain⟨cs,rfl,hs⟩:=hv';obtain⟨fuel,hf⟩:=h;obtain⟨s,lv,h1,h2,h3⟩:=qi2 (by simpa [Value.cells] using hf);refine⟨s,lv,?_,h2,h3⟩
 congr 1
 exact Array.toList_inj.1 h1
end Go.Proofs.YtdeimnnpcfncpaaGreatDoor.X
end
