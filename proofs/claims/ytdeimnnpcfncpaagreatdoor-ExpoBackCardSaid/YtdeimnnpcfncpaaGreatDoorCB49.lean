/- Parts of the proof: KS T9b. -/
import Derived.ChangeSlices
import Derived.SliceStrings
import Derived.Test.YtdeimnnpcfncpaaGreatDoorCB47
import Derived.Test.YtdeimnnpcfncpaaGreatDoorCB48
set_option linter.unusedVariables false
set_option linter.unusedSimpArgs false
set_option maxRecDepth 100000
set_option maxHeartbeats 64000000
section
namespace Go.Proofs.YtdeimnnpcfncpaaGreatDoor.X
open Go Go.RowKit Go.ChangeShapes Go.WideShapes
theorem qdI {α:Type} (n:Nat) (P:Nat→α→Prop) (h: ∀i,i<n→ ∃y,P i y): ∃l:List α,l.length=n∧ ∀i (hi:i<l.length),P i l[i]:=by
 induction n with
 |zero=>exact⟨[],rfl,fun i hi=>by simp at hi⟩
 |succ n ih=>
  obtain⟨l,h1,h2⟩:=ih (fun i hi=>h i (by omega));obtain⟨y,hy⟩:=h n (by omega);refine⟨l++[y],by simp[h1],fun i hi=>?_⟩;rw[List.getElem_append]
  split
  ·rename_i h3;exact h2 i h3
  ·rename_i h3
   have:i=n:=by simp at hi;omega
   subst this;simpa using hy
theorem qsf {a:Int} (h:(Lit.int .u64 a).wf=true): ∃n:Nat,a=(n:Int)∧n<18446744073709551616:=by
 simp[Lit.wf,IntKind.min,IntKind.max,IntKind.signed,IntKind.bits] at h;exact⟨a.toNat,by omega,by omega⟩
theorem qrg {a:Int} (h:(Lit.int .i64 a).wf=true): -9223372036854775808≤a∧a≤9223372036854775807:=by
 simp[Lit.wf,IntKind.min,IntKind.max,IntKind.signed,IntKind.bits] at h;omega
theorem qj1:Tryz.prog.cellsOf 26=5:=by kernel_rfl
theorem qne:Tryz.prog.cellsOf 166=2:=by kernel_rfl
theorem qj0:Tryz.prog.cellsOf 5=1:=by kernel_rfl
theorem qpt:Tryz.prog.cellsOf 23=1:=by kernel_rfl
theorem qmd:Tryz.prog.cellsOf 24=1:=by kernel_rfl
theorem qox:Tryz.prog.cellsOf 3=1:=by kernel_rfl
theorem qoX:Tryz.prog.cellsOf 4=1:=by kernel_rfl
section
variable {H:Type} {enc:TypeId×Value→H} {w:World} {base fuel:Nat} {x:DataW H×List MemPlace}
theorem qkl {t:TypeId} (ht:Tryz.prog.underlying t=some (.int .u8)) {cs:List Value} (h:DataW.trod enc Tryz.prog w base (fun _=>true) true fuel t cs=some x): ∃n:Nat,cs=[.int .u8 (n:Int)]∧n<256:=by
 obtain⟨n,h1,_,h2⟩:=DataW.trod_int ht h;obtain⟨m,rfl,hm⟩:=qsy h2;exact⟨m,h1,hm⟩
theorem qi3 {v:Value} (h:DataW.trod enc Tryz.prog w base (fun _=>true) true fuel 23 [v]=some x): ∃(qs:List (Nat×Nat)) (a:Option Addr) (c:Nat),v= .slice a qs.length c∧qp9 w (.slice a qs.length c) qs∧qs.length≤c∧c≤maxLen:=by
 rcases DataW.trod_slice Tryz.underlying23 h with ⟨hcs,_⟩|⟨a,l,c,elems,rest,n,_,hcs,_,_,hl,hm,hlen,hel,_,_⟩
 ·simp at hcs;subst hcs;exact⟨[],none,0,rfl,.inl ⟨none,0,rfl,rfl⟩,Nat.le_refl _,by unfold maxLen;omega⟩
 ·simp at hcs;subst hcs
  by_cases h0:l=0
  ·subst h0;exact⟨[],some a,c,rfl,.inl ⟨some a,c,rfl,rfl⟩,hl,hm⟩
  ·have key: ∀i,i<l→ ∃p:Nat×Nat,(w.cell? (a.add (i*2))=some (.int .u8 (p.1:Int))∧w.cell? ((a.add (i*2)).add 1)=some (.int .u8 (p.2:Int)))∧p.1<256∧p.2<256:=by
    intro i hi;have h1:=hel i hi;rw[qne,List.getElem?_eq_getElem (by omega),Option.bind_eq_some_iff] at h1;obtain⟨cs,e1,e2⟩:=h1;obtain⟨_,hcl,hat⟩:=World.cells?_some e1;obtain⟨xs,n',_,_,_,hxl,hf⟩:=DataW.trod_struct Tryz.underlying166 e2
    match cs,hcl with
    | [c0,c1],_=>
      have f0:DataW.trod enc Tryz.prog w base (fun _=>true) true n' 5 ([c0,c1].take (Tryz.prog.cellsOf 5))=xs[0]?:=hf 0 _ rfl;have f1:DataW.trod enc Tryz.prog w base (fun _=>true) true n' 5 ([c1].take (Tryz.prog.cellsOf 5))=xs[1]?:=hf 1 _ rfl;have hx:xs.length=2:=hxl;rw[qj0,List.getElem?_eq_getElem (by omega)] at f0 f1;obtain⟨p,g0,hp⟩:=qkl Tryz.underlying5 f0;obtain⟨q,g1,hq⟩:=qkl Tryz.underlying5 f1;simp at g0 g1;subst g0 g1;have t0:=hat 0 (by omega);have t1:=hat 1 (by omega);refine⟨(p,q),⟨?_,?_⟩,hp,hq⟩
      ·simpa [Addr.add] using t0
      ·simpa using t1
   obtain⟨qs,hr1,hr2⟩:=qdI l _ key;obtain⟨_,⟨hs0,_⟩,_⟩:=key 0 (by omega);obtain⟨b,off,spot⟩:=a;have hspot:spot=none:=by simpa [Addr.add] using World.cell?_spot hs0
   subst hspot;refine⟨qs,_,c,by rw[hr1],.inr ⟨b,off,c,by rw[hr1],?_,by omega,hm,fun i hi=>?_⟩,by omega,hm⟩
   ·obtain⟨o,ho,_⟩:=cells_of_cell hs0;have:=(Array.getElem?_eq_some_iff.1 ho).1;simpa [Addr.add] using this
   ·have:=hr2 i hi;rw[show(⟨b,off,none⟩:Addr).add (i*2)=⟨b,off+i*2,none⟩ by simp[Addr.add],show(⟨b,off+i*2,none⟩:Addr).add 1=⟨b,off+i*2+1,none⟩ by simp[Addr.add]] at this;rw[List.getD_eq_getElem?_getD,List.getElem?_eq_getElem hi];exact this
theorem qiH {cs:List Value} (h:DataW.trod enc Tryz.prog w base (fun _=>true) true fuel 26 cs=some x): ∃(s:Sm) (lv:Value),cs=[.int .u8 (s.nm:Int),lv,.int .u64 (s.bits:Int),.int .i64 s.tm,.bool s.td]∧qqZ s∧SmV w lv s:=by
 obtain⟨xs,n',_,_,hcl,hxl,hf⟩:=DataW.trod_struct Tryz.underlying26 h;rw[qj1] at hcl
 match cs,hcl with
 | [c0,c1,c2,c3,c4],_=>
   have f0:DataW.trod enc Tryz.prog w base (fun _=>true) true n' 5 ([c0,c1,c2,c3,c4].take (Tryz.prog.cellsOf 5))=xs[0]?:=hf 0 _ rfl;have f1:DataW.trod enc Tryz.prog w base (fun _=>true) true n' 23 ([c1,c2,c3,c4].take (Tryz.prog.cellsOf 23))=xs[1]?:=hf 1 _ rfl;have f2:DataW.trod enc Tryz.prog w base (fun _=>true) true n' 24 ([c2,c3,c4].take (Tryz.prog.cellsOf 24))=xs[2]?:=hf 2 _ rfl;have f3:DataW.trod enc Tryz.prog w base (fun _=>true) true n' 3 ([c3,c4].take (Tryz.prog.cellsOf 3))=xs[3]?:=hf 3 _ rfl;have f4:DataW.trod enc Tryz.prog w base (fun _=>true) true n' 4 ([c4].take (Tryz.prog.cellsOf 4))=xs[4]?:=hf 4 _ rfl;have hx:xs.length=5:=hxl;rw[qj0,List.getElem?_eq_getElem (by omega)] at f0;rw[qpt,List.getElem?_eq_getElem (by omega)] at f1;rw[qmd,List.getElem?_eq_getElem (by omega)] at f2;rw[qox,List.getElem?_eq_getElem (by omega)] at f3;rw[qoX,List.getElem?_eq_getElem (by omega)] at f4;obtain⟨p,g0,hp⟩:=qkl Tryz.underlying5 f0;obtain⟨qs,a,c,g1,hq,hqc,hcm⟩:=qi3 (by simpa using f1);obtain⟨b,g2,_,hb⟩:=DataW.trod_int Tryz.underlying24 f2;obtain⟨t,g3,_,ht⟩:=DataW.trod_int Tryz.underlying3 f3;obtain⟨d,g4,_⟩:=DataW.trod_bool Tryz.underlying4 f4;obtain⟨bn,rfl,hbn⟩:=qsf hb;have hti:=qrg ht;simp at g0 g2 g3 g4;subst g0 g1 g2 g3 g4;refine⟨⟨p,bn,t,d,qs⟩,_,rfl,⟨hp,hbn,hti.1,hti.2⟩,a,c,rfl,hq,hqc,?_⟩;have:=hcm;unfold maxLen at this;show qs.length≤_;omega
theorem open_smalls {a:Option Addr} {len cap:Nat} {d:DataW H} {p:List MemPlace} (h:DataW.Trod enc Tryz.prog w base (fun _=>true) true 22 (.slice a len cap) d p): ∃z:List Sm,z.length=len∧SmRow w (.slice a z.length cap) z∧len≤cap∧len≤maxLen:=by
 obtain⟨fuel,hf⟩:=h;rcases DataW.trod_slice Tryz.underlying22 hf with ⟨hcs,_⟩|⟨x,l,c,elems,rest,n,_,hcs,_,_,hl,hm,hlen,hel,_,_⟩
 ·simp[Value.cells] at hcs;obtain⟨rfl,rfl,rfl⟩:=hcs;exact⟨[],rfl,.inl ⟨_,_,rfl,rfl⟩,Nat.le_refl _,by unfold maxLen;omega⟩
 ·simp[Value.cells] at hcs;obtain⟨rfl,rfl,rfl⟩:=hcs
  by_cases h0:len=0
  ·subst h0;exact⟨[],rfl,.inl ⟨_,_,rfl,rfl⟩,by omega,by omega⟩
  ·have key: ∀i,i<len→ ∃s:Sm,qqZ s∧ ∃lv,(w.cell? (x.add (i*5))=some (.int .u8 (s.nm:Int))∧w.cell? ((x.add (i*5)).add 1)=some lv∧w.cell? ((x.add (i*5)).add 2)=some (.int .u64 (s.bits:Int))∧w.cell? ((x.add (i*5)).add 3)=some (.int .i64 s.tm)∧w.cell? ((x.add (i*5)).add 4)=some (.bool s.td))∧SmV w lv s:=by
    intro i hi;have h1:=hel i hi;rw[qj1,List.getElem?_eq_getElem (by omega),Option.bind_eq_some_iff] at h1;obtain⟨cs,e1,e2⟩:=h1;obtain⟨_,hcl,hat⟩:=World.cells?_some e1;obtain⟨s,lv,rfl,hok,hsv⟩:=qiH e2;have t0:=hat 0 (by omega);have t1:=hat 1 (by omega);have t2:=hat 2 (by omega);have t3:=hat 3 (by omega);have t4:=hat 4 (by omega);refine⟨s,hok,lv,⟨?_,?_,?_,?_,?_⟩,hsv⟩
    ·simpa [Addr.add] using t0
    ·simpa using t1
    ·simpa using t2
    ·simpa using t3
    ·simpa using t4
   obtain⟨z,hr1,hr2⟩:=qdI len _ key;obtain⟨_,_,_,⟨hs0,_⟩,_⟩:=key 0 (by omega);obtain⟨b,off,spot⟩:=x;have hspot:spot=none:=by simpa [Addr.add] using World.cell?_spot hs0
   subst hspot;refine⟨z,hr1,.inr ⟨b,off,cap,rfl,?_,by omega,hm,fun i hi=>?_⟩,hl,by omega⟩
   ·obtain⟨o,ho,_⟩:=cells_of_cell hs0;have:=(Array.getElem?_eq_some_iff.1 ho).1;simpa [Addr.add] using this
   ·have:=hr2 i hi;rw[show(⟨b,off,none⟩:Addr).add (i*5)=⟨b,off+i*5,none⟩ by simp[Addr.add]] at this;simp only[Addr.add] at this;rw[List.getD_eq_getElem?_getD,List.getElem?_eq_getElem hi];exact this
end
end Go.Proofs.YtdeimnnpcfncpaaGreatDoor.X
end
section
namespace Go.Proofs.YtdeimnnpcfncpaaGreatDoor
open Go Go.RowKit
theorem expoBack_walk (a0:Option Addr) (len0 cap0:Nat) (z0:List X.Sm) (w:World) (h0:z0.length=len0) (w0:X.SmRow w (.slice a0 z0.length cap0) z0) (c1:len0≤cap0) (c2:len0≤maxLen) (hG:X.EGlb w):
 Calls Tryz.prog 9 #[.slice a0 len0 cap0] w fun e w'=>e= .returned (.bool true)∧Below w.heap.size w w':=by
 subst h0;exact X.expoBack_any a0 cap0 z0 w w0 c1 c2 hG
end Go.Proofs.YtdeimnnpcfncpaaGreatDoor
end
