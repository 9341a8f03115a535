/- Parts of the proof: KS SW4 KW SW5. -/
import Derived.ChangeSlices
import Derived.SliceStrings
import Derived.Test.YtdeimnnpcfncpaaGreatDoorCX47
import Derived.Test.YtdeimnnpcfncpaaGreatDoorCX48
set_option linter.unusedVariables false
set_option linter.unusedSimpArgs false
set_option maxRecDepth 100000
set_option maxHeartbeats 64000000
section
namespace Go.Proofs.YtdeimnnpcfncpaaGreatDoor.X
open Go Go.RowKit Go.ChangeShapes Go.WideShapes
theorem qeu {α:Type} (n:Nat) (P:Nat→α→Prop) (h: ∀i,i<n→ ∃y,P i y): ∃l:List α,l.length=n∧ ∀i (hi:i<l.length),P i l[i]:=by
 induction n with
 |zero=>exact⟨[],rfl,fun i hi=>by simp at hi⟩
 |succ n ih=>
  obtain⟨l,h1,h2⟩:=ih (fun i hi=>h i (by omega));obtain⟨y,hy⟩:=h n (by omega);refine⟨l++[y],by simp[h1],fun i hi=>?_⟩;rw[List.getElem_append]
  split
  ·rename_i h3;exact h2 i h3
  ·rename_i h3
   have:i=n:=by simp at hi;omega
   subst this;simpa using hy
theorem qrX {a:Int} (h:(Lit.int .u64 a).wf=true): ∃n:Nat,a=(n:Int)∧n<18446744073709551616:=by
 simp[Lit.wf,IntKind.min,IntKind.max,IntKind.signed,IntKind.bits] at h;exact⟨a.toNat,by omega,by omega⟩
theorem qs3 {a:Int} (h:(Lit.int .i64 a).wf=true): -9223372036854775808≤a∧a≤9223372036854775807:=by
 simp[Lit.wf,IntKind.min,IntKind.max,IntKind.signed,IntKind.bits] at h;omega
theorem qmU:Tryz.prog.cellsOf 24=1:=by kernel_rfl
theorem qqg:Tryz.prog.cellsOf 3=1:=by kernel_rfl
theorem qpy:Tryz.prog.cellsOf 4=1:=by kernel_rfl
section
variable {H:Type} {enc:TypeId×Value→H} {w:World} {base fuel:Nat} {x:DataW H×List MemPlace}
end
end Go.Proofs.YtdeimnnpcfncpaaGreatDoor.X
end
section
namespace Go.Proofs.YtdeimnnpcfncpaaGreatDoor.X
open Go Go.RowKit
def ShL (x:Lb):Prop:=x.1.length≤200∧x.2.length≤200
def ShS (s:Smp):Prop:=s.ls.length≤10∧ ∀x∈s.ls,ShL x
def ShF (ss:List Smp):Prop:=ss.length≤40∧ ∀s∈ss,ShS s
theorem qeg {α:Type} {l:List α} {d:α} {P:α→Prop} (h: ∀j,j<l.length→P (l.getD j d)): ∀x∈l,P x:=by
 intro x hx;obtain⟨j,hj,rfl⟩:=List.mem_iff_getElem.1 hx;have:=h j hj;rwa[List.getD_eq_getElem?_getD,List.getElem?_eq_getElem hj] at this
theorem qnE (v:Value) (ss:List Smp) (hl:ss.length≤9223372036854775807) (hll: ∀s∈ss,s.ls.length≤9223372036854775807∧ ∀x∈s.ls,x.1.length≤9223372036854775807∧x.2.length≤9223372036854775807) (w:World) (hv:SLRow w v ss):Calls Tryz.prog 83 #[v] w fun e w'=> ∃b,e= .returned (.bool b)∧(b=true→ShF ss)∧Below w.heap.size w w':=by
 obtain⟨a,c,rfl⟩:=hv.shape;have HV:=Lh hv;have HL:=Lh hll;obtain⟨n,hn⟩: ∃n,n=ss.length:=⟨_,rfl⟩;have hnh:=Lh hn;rw[←hn] at hl⊢;clear hn hv hll
 by_cases h40:40<n
 ·have u1:decide ((40:Int)<(n:Int))=true:=dT (by omega);have u1':decide (40<n)=true:=dT h40;go_enter Tryz.func83,Tryz.ntmps83;go_wp2_with fail;go_ret;exact⟨false,rfl,(fun h=>by cases h),Below.refl _ _⟩
 have u1:decide ((40:Int)<(n:Int))=false:=dF (by omega);have u1':decide (40<n)=false:=dF h40;go_enter Tryz.func83,Tryz.ntmps83;go_wp2_with fail;go_loopg [12] (n+1) (fun gk s12 wx=> ∃i:Nat,i≤n∧n - i<gk∧s12= .int .i64 (i:Int)∧Hid (∀j,j<i→ShS (ss.getD j qaW))∧Hid (Below w.heap.size w wx))
 case atStart=>exact⟨0,by omega,by omega,by go_num,Lh (fun j hj=>by omega),Lh (Below.refl _ _)⟩
 case round=>
  obtain⟨i,hi,hgk,rfl,hS,B⟩:=hrel
  by_cases hlt:i<n
  ·have hil:i<ss.length:=by rw[←hnh.out];exact hlt
   have u2:decide ((i:Int)<(n:Int))=true:=dT (by omega);have u3:decide (i<n)=true:=dT hlt;obtain⟨bb,off,lv,rfl,hbl,⟨x0,x1,x2,x3⟩,hxl⟩:=(HV.out.on B.out).at' i hil;obtain⟨s,hsx⟩: ∃s,Hid (s=ss.getD i qaW):=⟨_,Lh rfl⟩;rw[←hsx.out] at x1 x2 x3 hxl;have hsl:=HL.out s (by rw[hsx.out,List.getD_eq_getElem?_getD,List.getElem?_eq_getElem hil];exact List.getElem_mem _);obtain⟨la,lc,rfl⟩:=hxl.shape
   have hsx2:Hid (∀P:ShS s,∀j,j<i+1→ShS (ss.getD j qaW)):=Lh (fun P j hj=>by
    by_cases h:j<i
    ·exact hS.out j h
    ·obtain rfl:j=i:=by omega
     rw[←hsx.out];exact P)
   obtain⟨ls,bits,st,t⟩:=s;simp only at x0 x1 x2 x3 hxl hsl;obtain⟨m,hm⟩: ∃m,m=ls.length:=⟨_,rfl⟩;have hmh:=Lh hm;have hsl1:=hsl.1;have hsl2:=Lh hsl.2;rw[←hm] at x0 hsl1;have hxl2:Hid (qaM wr (.slice la m lc) ls):=Lh (by rw[hm];exact hxl);clear hxl hsl hil hm hsx;have Bx:=(Below.refl wr.heap.size wr).alloc (Nat.le_refl _) (.cells #[.slice la m lc,.int .u64 (bits:Int),.bool st,.int .i64 t] 34);have N:SB wr.heap.size (.slice la m lc) (bits:Int) st t (wr.alloc (.cells #[.slice la m lc,.int .u64 (bits:Int),.bool st,.int .i64 t] 34)):=World.alloc_heap_new wr _;have hxl3:=Lh (hxl2.out.on Bx);have B1:=Lh (B.out.trans (Bx.mono B.out.size));clear Bx hxl2
   by_cases h10:10<m
   ·have v1:decide ((10:Int)<(m:Int))=true:=dT (by omega);have v1':decide (10<m)=true:=dT h10;clear N;go_wp2_with fail;go_ret;exact⟨false,rfl,(fun h=>by cases h),B1.out⟩
   have v1:decide ((10:Int)<(m:Int))=false:=dF (by omega);have v1':decide (10<m)=false:=dF h10;obtain⟨g0,hg0⟩: ∃g,g=gk:=⟨_,rfl⟩;rw[←hg0] at hgk;have n0:=N.c0;have hNl:=N.lt;go_wp2_with fail;generalize wr.alloc (.cells #[.slice la m lc,.int .u64 (bits:Int),.bool st,.int .i64 t] 34)=w3 at*;clear N n0;go_loopg [23] (m+1) (fun gk s23 wx=> ∃j:Nat,j≤m∧m - j<gk∧s23= .int .i64 (j:Int)∧Hid (∀q,q<j→ShL (ls.getD q lb0))∧Hid (Below w3.heap.size w3 wx))
   case atStart=>exact⟨0,by omega,by omega,by go_num,Lh (fun j hj=>by omega),Lh (Below.refl _ _)⟩
   case round=>
    obtain⟨j,hj,hgk2,rfl,hJ,B4⟩:=hrel;have B5:=Lh (B1.out.trans (B4.out.mono B1.out.size))
    by_cases hjm:j<m
    ·have hjl:j<ls.length:=by rw[←hmh.out];exact hjm
     have t2:decide ((j:Int)<(m:Int))=true:=dT (by omega);have t3:decide (j<m)=true:=dT hjm;obtain⟨b2,off2,rfl,hb2,y1,y2⟩:=(hxl3.out.on B4.out).at' j hjl;obtain⟨x,hx⟩: ∃x,Hid (x=ls.getD j lb0):=⟨_,Lh rfl⟩;rw[←hx.out] at y1 y2;have hxs:=hsl2.out x (by rw[hx.out,List.getD_eq_getElem?_getD,List.getElem?_eq_getElem hjl];exact List.getElem_mem _);have z1:=qac x.1;have z2:=qac x.2
     have hJ2:Hid (ShL x→ ∀q,q<j+1→ShL (ls.getD q lb0)):=Lh (fun P q hq=>by
      by_cases h:q<j
      ·exact hJ.out q h
      ·obtain rfl:q=j:=by omega
       rw[←hx.out];exact P)
     have B6: ∀ob,Hid (Below w3.heap.size w3 (wr.alloc ob)):=fun ob=>Lh (B4.out.alloc B4.out.size ob)
     have B7: ∀ob,Hid (Below w.heap.size w (wr.alloc ob)):=fun ob=>Lh (B5.out.alloc B5.out.size ob)
     clear hx hjl hJ
     by_cases h1:200<x.1.length
     ·have r1:decide ((200:Int)<(x.1.length:Int))=true:=dT (by omega);have r1':decide (200<x.1.length)=true:=dT h1;go_wp2_with fail;go_ret;exact⟨false,rfl,(fun h=>by cases h),(B7 _).out⟩
     have r1:decide ((200:Int)<(x.1.length:Int))=false:=dF (by omega);have r1':decide (200<x.1.length)=false:=dF h1
     by_cases h2:200<x.2.length
     ·have r2:decide ((200:Int)<(x.2.length:Int))=true:=dT (by omega);have r2':decide (200<x.2.length)=true:=dT h2;go_wp2_with fail;go_ret;exact⟨false,rfl,(fun h=>by cases h),(B7 _).out⟩
     have r2:decide ((200:Int)<(x.2.length:Int))=false:=dF (by omega);have r2':decide (200<x.2.length)=false:=dF h2;go_wp2_with fail;go_roundg (gk - 1)
     case measure=>omega
     case rel=>exact⟨j+1,by omega,by omega,by go_num,Lh (hJ2.out ⟨by omega,by omega⟩),B6 _⟩
    ·obtain rfl:j=m:=by omega
     have t2:decide ((j:Int)<(j:Int))=false:=dF (by omega);have hSS:Hid (ShS ⟨ls,bits,st,t⟩):=Lh ⟨by show ls.length≤10;rw[←hmh.out];omega,qeg (d:=lb0) (fun q hq=>hJ.out q (by rw[hmh.out];exact hq))⟩;go_wp2_with fail;go_roundg (g0 - 1)
     case measure=>omega
     case rel=>exact⟨i+1,by omega,by omega,by go_num,Lh (hsx2.out hSS.out),B5⟩
  ·obtain rfl:i=n:=by omega
   have u2:decide ((i:Int)<(i:Int))=false:=dF (by omega);go_wp2_with fail;go_ret;exact⟨true,rfl,fun _=>⟨by rw[←hnh.out];omega,qeg (d:=qaW) (fun q hq=>hS.out q (by rw[hnh.out];exact hq))⟩,B.out⟩
structure SwF (s:Smp):Prop where
 n:s.ls.length≤9223372036854775807
 v: ∀x∈s.ls,x.1.length≤9223372036854775807∧x.2.length≤9223372036854775807
 b:s.bits<18446744073709551616
 t0: -9223372036854775808≤s.t
 t1:s.t≤9223372036854775807
theorem ShS.sbt {s:Smp} (h:ShS s) (hf:SwF s):SBt s:=⟨⟨by have:=h.1;omega,fun x hx=>by have:=h.2 x hx;unfold ShL at this;omega,hf.b⟩,hf.t0,hf.t1⟩
theorem qm8 (b:Bool) (x y:Operand) (w:World):(do eqGuard .neq 4 x y (.bool b) (.bool b);binOp .neq 4 (.bool b) (.bool b):Sem Value).run Tryz.prog w= .ok (.bool false) w:=by
 cases b<;>go_simp
theorem qnP (l:ByteArray) (x y:Operand) (w:World):(do eqGuard .neq 9 x y (.string l) (.string l);binOp .neq 9 (.string l) (.string l):Sem Value).run Tryz.prog w= .ok (.bool false) w:=by
 go_simp
theorem qmD (n:Int) (x y:Operand) (w:World):(do eqGuard .neq 3 x y (.int .i64 n) (.int .i64 n);binOp .neq 3 (.int .i64 n) (.int .i64 n):Sem Value).run Tryz.prog w= .ok (.bool false) w:=by
 go_simp
def XC (av:Value) (rf:Bool) (lt:List UInt8) (le:Int) (i:Nat) (v:Value) (_w:World):Prop:=
 match i with
 |0=>v=av|1=>v= .bool rf|2=>v=av|3=>v= .bool rf|4=>v= .bool false|5=>v= .bool false
 |6=>v= .string (BS lt)|7=>v= .string (BS lt)|8=>v= .bool false|9=>v= .bool false|10=>v= .bool false
 |11=>v= .int .i64 le|12=>v= .int .i64 le|13=>v= .bool false|14=>v= .bool false
 |_=>True
theorem writes_to (v:Value) (ss:List Smp) (hl:ss.length≤9223372036854775807) (hf: ∀s∈ss,SwF s) (w:World) (hG:EGlb w) (hv:SLRow w v ss):Calls Tryz.prog 31 #[v] w fun e w'=>e= .returned (.bool true)∧Below w.heap.size w w':=by
 obtain⟨a,c,rfl⟩:=hv.shape;have GG:=Lh (fun W (hb:Below w.heap.size w W)=>hG.on hb);have cS:=Lh (qnE _ ss hl (fun s hs=>⟨(hf s hs).n,(hf s hs).v⟩) w hv);have HV:=Lh hv;have HF:=Lh hf;obtain⟨n,hn⟩: ∃n,n=ss.length:=⟨_,rfl⟩;have hnh:=Lh hn;rw[←hn] at cS⊢;clear hn hv hf hG hl;go_enter Tryz.func31,Tryz.ntmps31;go_wp2_with fail;refine cS.out.mono ?_;rintro e w1 ⟨b,rfl,hb,B1⟩;replace B1:=Lh B1
 cases b with
 |false=>
  go_wp2_with fail;go_ret;exact⟨rfl,B1.out⟩
 |true=>
  have hSh:=hb rfl;have hn40:n≤40:=by rw[hnh.out];exact hSh.1
  have hbt:Hid (∀s∈ss,SBt s):=Lh (fun s hs=>(hSh.2 s hs).sbt (HF.out s hs));have hV1:=HV.out.on B1.out;have cc:=qn4 _ ss (by rw[←hnh.out];omega) hbt.out w1 hV1;rw[←hnh.out] at cc;replace cc:=Lh cc;clear hb hSh cS hV1;go_wp2_with fail;refine cc.out.mono ?_;rintro e w2 ⟨v2,rfl,hrow,Bx⟩;have hO:=Lh (SLRow.of_own hrow);have B2:=Lh (B1.out.trans (Bx.mono B1.out.size));obtain⟨a2,c2,e2⟩:=hO.out.shape;rw[←hnh.out] at e2;subst e2;clear cc hrow Bx;go_wp2_with fail;go_loopg [23] (n+1) (fun gk s23 wx=> ∃i:Nat,i≤n∧n - i<gk∧s23= .int .i64 (i:Int)∧Hid (Below w2.heap.size w2 wx))
  case atStart=>exact⟨0,by omega,by omega,by go_num,Lh (Below.refl _ _)⟩
  case round=>
   obtain⟨i,hi,hgk,rfl,B3⟩:=hrel
   by_cases hlt:i<n
   ·have hil:i<ss.length:=by rw[←hnh.out];exact hlt
    have u2:decide ((i:Int)<(n:Int))=true:=dT (by omega);have u3:decide (i<n)=true:=dT hlt;obtain⟨bb,off,lv,rfl,hbl,⟨x0,x1,x2,x3⟩,hxl⟩:=(hO.out.on B3.out).at' i hil;obtain⟨s,hsx⟩: ∃s,Hid (s=ss.getD i qaW):=⟨_,Lh rfl⟩;rw[←hsx.out] at x1 x2 x3 hxl;have hsm:=hbt.out s (by rw[hsx.out,List.getD_eq_getElem?_getD,List.getElem?_eq_getElem hil];exact List.getElem_mem _);obtain⟨la,lc,rfl⟩:=hxl.shape;have Bx:=(Below.refl wr.heap.size wr).alloc (Nat.le_refl _) (.cells #[.slice la s.ls.length lc,.int .u64 (s.bits:Int),.bool s.st,.int .i64 s.t] 34);have N:SB wr.heap.size (.slice la s.ls.length lc) (s.bits:Int) s.st s.t (wr.alloc (.cells #[.slice la s.ls.length lc,.int .u64 (s.bits:Int),.bool s.st,.int .i64 s.t] 34)):=World.alloc_heap_new wr _;have B4:=Lh (B3.out.trans (Bx.mono B3.out.size));have hxl2:=Lh (hxl.on Bx);have c19:=fun W (hb:Below (wr.alloc (.cells #[.slice la s.ls.length lc,.int .u64 (s.bits:Int),.bool s.st,.int .i64 s.t] 34)).heap.size (wr.alloc (.cells #[.slice la s.ls.length lc,.int .u64 (s.bits:Int),.bool s.st,.int .i64 s.t] 34)) W)=>qhD _ s hsm.1 hsm.2.1 hsm.2.2 W (GG.out W (B2.out.trans ((B4.out.trans (hb.mono B4.out.size)).mono B2.out.size))) ⟨_,rfl,hxl2.out.on hb⟩
    have c85:=fun W (hb:Below (wr.alloc (.cells #[.slice la s.ls.length lc,.int .u64 (s.bits:Int),.bool s.st,.int .i64 s.t] 34)).heap.size (wr.alloc (.cells #[.slice la s.ls.length lc,.int .u64 (s.bits:Int),.bool s.st,.int .i64 s.t] 34)) W)=>qip _ s hsm.1 hsm.2.1 hsm.2.2 W ⟨_,rfl,hxl2.out.on hb⟩
    have c21:=fun W (hb:Below (wr.alloc (.cells #[.slice la s.ls.length lc,.int .u64 (s.bits:Int),.bool s.st,.int .i64 s.t] 34)).heap.size (wr.alloc (.cells #[.slice la s.ls.length lc,.int .u64 (s.bits:Int),.bool s.st,.int .i64 s.t] 34)) W)=>qhR _ s hsm.1 W ⟨_,rfl,hxl2.out.on hb⟩
    have c86:=fun W (hb:Below (wr.alloc (.cells #[.slice la s.ls.length lc,.int .u64 (s.bits:Int),.bool s.st,.int .i64 s.t] 34)).heap.size (wr.alloc (.cells #[.slice la s.ls.length lc,.int .u64 (s.bits:Int),.bool s.st,.int .i64 s.t] 34)) W)=>qfd _ s hsm.1 W ⟨_,rfl,hxl2.out.on hb⟩
    obtain⟨le,lt,hL⟩: ∃le lt,qcd s=(le,lt):=⟨_,_,rfl⟩;obtain⟨rf,hrf⟩: ∃rf,qaV s=rf:=⟨_,rfl⟩;simp only[hL] at c19 c85;simp only[hrf] at c21 c86;obtain⟨ls,bits,st,t⟩:=s;simp only at x0 x1 x2 x3 c19 c85 c21 c86 N hxl2 B4;obtain⟨m,hm⟩: ∃m,m=ls.length:=⟨_,rfl⟩;rw[←hm] at x0 c19 c85 c21 c86 N hxl2 B4;clear hxl hsm hsx hL hrf hil Bx hm hxl2;have n0:=N.c0;have n1:=N.c1;have n2:=N.c2;have n3:=N.c3;have q1:((BS lt).toList==(BS lt).toList)=true:=beq_self_eq_true _;have q1':((BS lt).toList !=(BS lt).toList)=false:=by rw[bne,q1];rfl
    have q2:(le==le)=true:=beq_self_eq_true _;have q2':(le !=le)=false:=by rw[bne,q2];rfl
    have q3:(rf !=rf)=false:=by cases rf<;>rfl
    go_upto_region 7 with (fail)
    generalize wr.alloc (.cells #[.slice la m lc,.int .u64 (bits:Int),.bool st,.int .i64 t] 34)=w3 at*;have hNl:=N.lt;generalize wr.heap.size=P at*;replace c19:=Lh c19;replace c85:=Lh c85;replace c21:=Lh c21;replace c86:=Lh c86;replace N:=Lh N;go_wp2_with fail;refine(c19.out _ (Below.refl _ _)).mono ?_;rintro e w4 ⟨rfl,b4⟩;have N4:=N.out.on b4;have n0:=N4.c0;have n1:=N4.c1;have n2:=N4.c2;have n3:=N4.c3;replace b4:=Lh b4;clear N4;go_wp2_with fail;refine(c85.out _ b4.out).mono ?_;rintro e w5 ⟨rfl,b5'⟩;have b5:=Lh (b4.out.trans (b5'.mono b4.out.size));have N5:=N.out.on b5.out;have n0:=N5.c0;have n1:=N5.c1;have n2:=N5.c2;have n3:=N5.c3;clear N5 b5';have h21: ∀args W,(callFunc 21 args).run Tryz.prog W= .ok (.enter 21 args) W:=enters_of Tryz.func21 (by kernel_rfl) rfl;have h86: ∀args W,(callFunc 86 args).run Tryz.prog W= .ok (.enter 86 args) W:=enters_of Tryz.func86 (by kernel_rfl) rfl;replace h21:=Lh h21;replace h86:=Lh h86;have hP5:P<w5.heap.size:=Nat.lt_of_lt_of_le hNl b5.out.size;go_upto_region 9 with (fail)
    refine qeJ (fun j=>([[],[0],[],[2],[1,3],[4],[5],[5],[6,7,5],[5,8],[9],[10],[10],[11,12,10],[10,13]]:List (List Nat)).getD j []) [14] [] []
     (XC (.agg #[.slice la m lc,.int .u64 (bits:Int),.bool st,.int .i64 t]) rf lt le)
     (by kernel_rfl) (by kernel_rfl) (by decide+kernel) (by kernel_rfl) (by decide+kernel) (fun j hj=>by rw[List.getD_eq_getElem?_getD,List.getElem?_eq_none (show 15≤j from hj)];rfl) (by decide+kernel) (fun i v w w' h _=>h) (fun i v w w' _ _ h _=>h) ?_ ?_
    ·intro i;rcases i with _|_|_|_|_|_|_|_|_|_|_|_|_|_|_|i
     all_goals intro oo hoo a wa hba hout hpre
     all_goals cases hoo
     ·refine qbu rfl (qae rfl) rfl ((hout 5 (by decide+kernel)).trans rfl) ?_ ⟨_,rfl,Below.refl _ _,rfl⟩;have k0:=(hba.cell (p:=⟨P,0,none⟩) hP5).trans n0;have k1:=(hba.cell (p:=⟨P,1,none⟩) hP5).trans n1;have k2:=(hba.cell (p:=⟨P,2,none⟩) hP5).trans n2;have k3:=(hba.cell (p:=⟨P,3,none⟩) hP5).trans n3;simp[go_sem,k0,k1,k2,k3]
     ·have e0:a.tmps.getD 37 undef= .agg #[.slice la m lc,.int .u64 (bits:Int),.bool st,.int .i64 t]:=hpre 0 (by simp) _ rfl;refine qa3 rfl (qae rfl) _ (qhJ e0) (h21.out _ _) ((c21.out wa (b5.out.trans (hba.mono b5.out.size))).mono ?_);rintro e w' ⟨rfl,hb'⟩;exact⟨_,rfl,_,rfl,hb',rfl⟩
     ·refine qbu rfl (qae rfl) rfl ((hout 5 (by decide+kernel)).trans rfl) ?_ ⟨_,rfl,Below.refl _ _,rfl⟩;have k0:=(hba.cell (p:=⟨P,0,none⟩) hP5).trans n0;have k1:=(hba.cell (p:=⟨P,1,none⟩) hP5).trans n1;have k2:=(hba.cell (p:=⟨P,2,none⟩) hP5).trans n2;have k3:=(hba.cell (p:=⟨P,3,none⟩) hP5).trans n3;simp[go_sem,k0,k1,k2,k3]
     ·have e0:a.tmps.getD 39 undef= .agg #[.slice la m lc,.int .u64 (bits:Int),.bool st,.int .i64 t]:=hpre 2 (by simp) _ rfl;refine qa3 rfl (qae rfl) _ (qhJ e0) (h86.out _ _) ((c86.out wa (b5.out.trans (hba.mono b5.out.size))).mono ?_);rintro e w' ⟨rfl,hb'⟩;exact⟨_,rfl,_,rfl,hb',rfl⟩
     ·have e1:a.tmps.getD 38 undef= .bool rf:=hpre 1 (by simp) _ rfl;have e2:a.tmps.getD 40 undef= .bool rf:=hpre 3 (by simp) _ rfl;exact qa2 rfl (qae rfl) rfl e1 e2 (qm8 rf _ _ wa) ⟨_,rfl,Below.refl _ _,rfl⟩
     ·have e1:a.tmps.getD 41 undef= .bool false:=hpre 4 (by simp) _ rfl;exact qap rfl (qae rfl) (.inl rfl) ⟨_,rfl,Below.refl _ _,e1⟩
     ·have e1:a.tmps.getD 42 undef= .bool false:=hpre 5 (by simp) _ rfl;exact qap rfl (qat rfl rfl rfl e1) (.inl rfl) ⟨_,rfl,Below.refl _ _,(hout 6 (by decide+kernel)).trans rfl⟩
     ·have e1:a.tmps.getD 42 undef= .bool false:=hpre 5 (by simp) _ rfl;exact qap rfl (qat rfl rfl rfl e1) (.inl rfl) ⟨_,rfl,Below.refl _ _,(hout 8 (by decide+kernel)).trans rfl⟩
     ·have e1:a.tmps.getD 42 undef= .bool false:=hpre 5 (by simp) _ rfl;have e2:a.tmps.getD 43 undef= .string (BS lt):=hpre 6 (by simp) _ rfl;have e3:a.tmps.getD 44 undef= .string (BS lt):=hpre 7 (by simp) _ rfl;exact qa2 rfl (qat rfl rfl rfl e1) rfl e2 e3 (qnP _ _ _ wa) ⟨_,rfl,Below.refl _ _,rfl⟩
     ·have e1:a.tmps.getD 42 undef= .bool false:=hpre 5 (by simp) _ rfl;have e2:a.tmps.getD 45 undef= .bool false:=hpre 8 (by simp) _ rfl;exact qcN rfl (qae rfl) rfl e1 ⟨_,rfl,Below.refl _ _,e2⟩
     ·have e1:a.tmps.getD 46 undef= .bool false:=hpre 9 (by simp) _ rfl;exact qap rfl (qae rfl) (.inl rfl) ⟨_,rfl,Below.refl _ _,e1⟩
     ·have e1:a.tmps.getD 47 undef= .bool false:=hpre 10 (by simp) _ rfl;exact qap rfl (qat rfl rfl rfl e1) (.inl rfl) ⟨_,rfl,Below.refl _ _,(hout 7 (by decide+kernel)).trans rfl⟩
     ·have e1:a.tmps.getD 47 undef= .bool false:=hpre 10 (by simp) _ rfl;exact qap rfl (qat rfl rfl rfl e1) (.inl rfl) ⟨_,rfl,Below.refl _ _,(hout 9 (by decide+kernel)).trans rfl⟩
     ·have e1:a.tmps.getD 47 undef= .bool false:=hpre 10 (by simp) _ rfl;have e2:a.tmps.getD 48 undef= .int .i64 le:=hpre 11 (by simp) _ rfl;have e3:a.tmps.getD 49 undef= .int .i64 le:=hpre 12 (by simp) _ rfl;exact qa2 rfl (qat rfl rfl rfl e1) rfl e2 e3 (qmD _ _ _ wa) ⟨_,rfl,Below.refl _ _,rfl⟩
     ·have e1:a.tmps.getD 47 undef= .bool false:=hpre 10 (by simp) _ rfl;have e2:a.tmps.getD 50 undef= .bool false:=hpre 13 (by simp) _ rfl;exact qcN rfl (qae rfl) rfl e1 ⟨_,rfl,Below.refl _ _,e2⟩
    ·intro a wa hba hF9 ha;have f51:a.tmps.getD 51 undef= .bool false:=hF9 14 (by simp) _ rfl;clear hF9;simp only[List.foldl,qaq] at ha;rw[f51] at ha;clear f51;generalize a.tmps.getD 37 undef=z37 at ha;generalize a.tmps.getD 38 undef=z38 at ha;generalize a.tmps.getD 39 undef=z39 at ha;generalize a.tmps.getD 40 undef=z40 at ha;generalize a.tmps.getD 41 undef=z41 at ha;generalize a.tmps.getD 42 undef=z42 at ha;generalize a.tmps.getD 43 undef=z43 at ha;generalize a.tmps.getD 44 undef=z44 at ha;generalize a.tmps.getD 45 undef=z45 at ha;generalize a.tmps.getD 46 undef=z46 at ha;generalize a.tmps.getD 47 undef=z47 at ha;generalize a.tmps.getD 48 undef=z48 at ha;generalize a.tmps.getD 49 undef=z49 at ha;generalize a.tmps.getD 50 undef=z50 at ha;subst ha;simp only[Act.put,List.setIfInBounds_toArray,List.set_cons_succ,List.set_cons_zero];have B9:=Lh (B4.out.trans ((b5.out.trans (hba.mono b5.out.size)).mono B4.out.size));clear hba n0 n1 n2 n3 c19 c85 c21 c86;go_wp2_with fail;go_roundg (gk - 1)
     case measure=>omega
     case rel=>exact⟨i+1,by omega,by omega,by go_num,B9⟩
   ·obtain rfl:i=n:=by omega
    have u2:decide ((i:Int)<(i:Int))=false:=dF (by omega);have B4:=Lh (B2.out.trans (B3.out.mono B2.out.size));have cw:=qmR _ ss (by rw[←hnh.out];omega) hbt.out wr (GG.out _ B4.out) (hO.out.on B3.out);have cr:=fun W (hb:Below w.heap.size w W)=>qiQ _ ss (by rw[←hnh.out];omega) hbt.out W (HV.out.on hb)
    have hq: ∀s∈ss,s.ls.length≤1000000000:=fun s hs=>by have:=(hbt.out s hs).1.n;omega
    have cs:=fun W (hb:Below w2.heap.size w2 W)=>qfb _ _ ss ss (by rw[←hnh.out];omega) (by rw[←hnh.out];omega) hq hq W (hO.out.on hb) (HV.out.on (B2.out.trans (hb.mono B2.out.size)))
    rw[(qcc ss ss).2 rfl] at cs;rw[←hnh.out] at cr cs;unfold qkc at cw cr;obtain⟨T,k,f,hT⟩: ∃T k f,qdy ss=(f,k,T):=⟨_,_,_,rfl⟩;simp only[hT] at cw cr;replace cw:=Lh cw;replace cr:=Lh cr;replace cs:=Lh cs;have q1:((BS T).toList==(BS T).toList)=true:=beq_self_eq_true _;have q2:(k==k)=true:=beq_self_eq_true _;have q3:(f==f)=true:=beq_self_eq_true _;clear hT hq;go_wp2_with fail;refine cw.out.mono ?_;rintro e w4 ⟨rfl,b4⟩;have B5:=Lh (B4.out.trans (b4.mono B4.out.size));have b5:=Lh (B3.out.trans (b4.mono B3.out.size));clear b4 cw;go_wp2_with fail;refine(cr.out _ B5.out).mono ?_;rintro e w5 ⟨rfl,b6⟩;have b7:=Lh (b5.out.trans (b6.mono b5.out.size));clear b6 cr;go_wp2_with fail;refine(cs.out _ b7.out).mono ?_;rintro e w6 ⟨rfl,b8⟩;have B9:=Lh (B2.out.trans ((b7.out.trans (b8.mono b7.out.size)).mono B2.out.size));go_wp2_with fail;go_ret;exact⟨rfl,B9.out⟩
end Go.Proofs.YtdeimnnpcfncpaaGreatDoor.X
end
section
namespace Go.Proofs.YtdeimnnpcfncpaaGreatDoor.X
open Go Go.RowKit Go.ChangeShapes Go.WideShapes
theorem qil (a:ByteArray):BS a.data.toList=a:=by unfold BS;rfl
theorem qkS:Tryz.prog.cellsOf 34=4:=by kernel_rfl
theorem qqD:Tryz.prog.cellsOf 44=2:=by kernel_rfl
theorem qrh:Tryz.prog.cellsOf 9=1:=by kernel_rfl
theorem qp1:Tryz.prog.cellsOf 32=1:=by kernel_rfl
section
variable {H:Type} {enc:TypeId×Value→H} {w:World} {base fuel:Nat} {x:DataW H×List MemPlace}
theorem qlj {v:Value} (h:DataW.trod enc Tryz.prog w base (fun _=>true) true fuel 32 [v]=some x): ∃ls:List Lb,qaM w v ls∧ls.length≤maxLen∧ ∀x∈ls,x.1.length≤maxLen∧x.2.length≤maxLen:=by
 rcases DataW.trod_slice Tryz.underlying32 h with ⟨hcs,_⟩|⟨a,l,c,elems,rest,n,_,hcs,_,_,hl,hm,hlen,hel,_,_⟩
 ·simp at hcs;subst hcs;exact⟨[],.inl ⟨none,0,fun _=>rfl,rfl,rfl⟩,by simp,fun x hx=>by cases hx⟩
 ·simp at hcs;subst hcs
  by_cases h0:l=0
  ·subst h0;exact⟨[],.inl ⟨some a,c,(fun h=>by cases h),rfl,rfl⟩,by simp,fun x hx=>by cases hx⟩
  ·have key: ∀i,i<l→ ∃p:Lb,(w.cell? (a.add (i*2))=some (.string (BS p.1))∧w.cell? ((a.add (i*2)).add 1)=some (.string (BS p.2)))∧p.1.length≤maxLen∧p.2.length≤maxLen:=by
    intro i hi;have h1:=hel i hi;rw[qqD,List.getElem?_eq_getElem (by omega),Option.bind_eq_some_iff] at h1;obtain⟨cs,e1,e2⟩:=h1;obtain⟨_,hcl,hat⟩:=World.cells?_some e1;obtain⟨xs,n',_,_,_,hxl,hf⟩:=DataW.trod_struct Tryz.underlying44 e2
    match cs,hcl with
    | [c0,c1],_=>
      have f0:DataW.trod enc Tryz.prog w base (fun _=>true) true n' 9 ([c0,c1].take (Tryz.prog.cellsOf 9))=xs[0]?:=hf 0 _ rfl;have f1:DataW.trod enc Tryz.prog w base (fun _=>true) true n' 9 ([c1].take (Tryz.prog.cellsOf 9))=xs[1]?:=hf 1 _ rfl;have hx:xs.length=2:=hxl;rw[qrh,List.getElem?_eq_getElem (by omega)] at f0 f1;obtain⟨p,g0,_,hp⟩:=DataW.trod_string Tryz.underlying9 f0;obtain⟨q,g1,_,hq⟩:=DataW.trod_string Tryz.underlying9 f1;simp at g0 g1;subst g0 g1;have t0:=hat 0 (by omega);have t1:=hat 1 (by omega);refine⟨(p.data.toList,q.data.toList),⟨?_,?_⟩,by simpa using hp,by simpa using hq⟩
      ·simpa [Addr.add,qil] using t0
      ·simpa [qil] using t1
   obtain⟨qs,hr1,hr2⟩:=qeu l _ key;obtain⟨_,⟨hs0,_⟩,_⟩:=key 0 (by omega);obtain⟨b,off,spot⟩:=a;have hspot:spot=none:=by simpa [Addr.add] using World.cell?_spot hs0
   subst hspot;refine⟨qs,.inr ⟨b,off,c,by rw[hr1],?_,by omega,hm,fun i hi=>?_⟩,by omega,fun x hx=>?_⟩
   ·obtain⟨o,ho,_⟩:=cells_of_cell hs0;have:=(Array.getElem?_eq_some_iff.1 ho).1;simpa [Addr.add] using this
   ·have:=(hr2 i hi).1;rw[show(⟨b,off,none⟩:Addr).add (i*2)=⟨b,off+i*2,none⟩ by simp[Addr.add],show(⟨b,off+i*2,none⟩:Addr).add 1=⟨b,off+i*2+1,none⟩ by simp[Addr.add]] at this;rw[List.getD_eq_getElem?_getD,List.getElem?_eq_getElem hi];exact this
   ·obtain⟨i,hi,rfl⟩:=List.mem_iff_getElem.1 hx;exact(hr2 i hi).2
theorem qlQ {cs:List Value} (h:DataW.trod enc Tryz.prog w base (fun _=>true) true fuel 34 cs=some x): ∃(s:Smp) (lv:Value),cs=[lv,.int .u64 (s.bits:Int),.bool s.st,.int .i64 s.t]∧SwF s∧qaM w lv s.ls:=by
 obtain⟨xs,n',_,_,hcl,hxl,hf⟩:=DataW.trod_struct Tryz.underlying34 h;rw[qkS] at hcl
 match cs,hcl with
 | [c0,c1,c2,c3],_=>
   have f0:DataW.trod enc Tryz.prog w base (fun _=>true) true n' 32 ([c0,c1,c2,c3].take (Tryz.prog.cellsOf 32))=xs[0]?:=hf 0 _ rfl;have f1:DataW.trod enc Tryz.prog w base (fun _=>true) true n' 24 ([c1,c2,c3].take (Tryz.prog.cellsOf 24))=xs[1]?:=hf 1 _ rfl;have f2:DataW.trod enc Tryz.prog w base (fun _=>true) true n' 4 ([c2,c3].take (Tryz.prog.cellsOf 4))=xs[2]?:=hf 2 _ rfl;have f3:DataW.trod enc Tryz.prog w base (fun _=>true) true n' 3 ([c3].take (Tryz.prog.cellsOf 3))=xs[3]?:=hf 3 _ rfl;have hx:xs.length=4:=hxl;rw[qp1,List.getElem?_eq_getElem (by omega)] at f0;rw[qmU,List.getElem?_eq_getElem (by omega)] at f1;rw[qpy,List.getElem?_eq_getElem (by omega)] at f2;rw[qqg,List.getElem?_eq_getElem (by omega)] at f3;obtain⟨ls,g0,hl,hlv⟩:=qlj (by simpa using f0);obtain⟨b,g1,_,hb⟩:=DataW.trod_int Tryz.underlying24 f1;obtain⟨d,g2,_⟩:=DataW.trod_bool Tryz.underlying4 f2;obtain⟨t,g3,_,ht⟩:=DataW.trod_int Tryz.underlying3 f3;obtain⟨bn,rfl,hbn⟩:=qrX hb;have hti:=qs3 ht;simp at g1 g2 g3;subst g1 g2 g3;refine⟨⟨ls,bn,d,t⟩,_,rfl,⟨?_,fun x hx=>?_,hbn,hti.1,hti.2⟩,g0⟩
   ·have:=hl;unfold maxLen at this;show ls.length≤_;omega
   ·have:=hlv x hx;unfold maxLen at this;omega
theorem open_samples {a:Option Addr} {len cap:Nat} {d:DataW H} {p:List MemPlace} (h:DataW.Trod enc Tryz.prog w base (fun _=>true) true 28 (.slice a len cap) d p): ∃z:List Smp,z.length=len∧SLRow w (.slice a len cap) z∧(∀s∈z,SwF s)∧len≤maxLen:=by
 obtain⟨fuel,hf⟩:=h;rcases DataW.trod_slice Tryz.underlying28 hf with ⟨hcs,_⟩|⟨x,l,c,elems,rest,n,_,hcs,_,_,hl,hm,hlen,hel,_,_⟩
 ·simp[Value.cells] at hcs;obtain⟨rfl,rfl,rfl⟩:=hcs;exact⟨[],rfl,.inl ⟨_,_,fun _=>rfl,rfl,rfl⟩,(fun s hs=>by cases hs),by unfold maxLen;omega⟩
 ·simp[Value.cells] at hcs;obtain⟨rfl,rfl,rfl⟩:=hcs
  by_cases h0:len=0
  ·subst h0;exact⟨[],rfl,.inl ⟨_,_,(fun h=>by cases h),rfl,rfl⟩,(fun s hs=>by cases hs),by omega⟩
  ·have key: ∀i,i<len→ ∃s:Smp,SwF s∧ ∃lv,(w.cell? (x.add (i*4))=some lv∧w.cell? ((x.add (i*4)).add 1)=some (.int .u64 (s.bits:Int))∧w.cell? ((x.add (i*4)).add 2)=some (.bool s.st)∧w.cell? ((x.add (i*4)).add 3)=some (.int .i64 s.t))∧qaM w lv s.ls:=by
    intro i hi;have h1:=hel i hi;rw[qkS,List.getElem?_eq_getElem (by omega),Option.bind_eq_some_iff] at h1;obtain⟨cs,e1,e2⟩:=h1;obtain⟨_,hcl,hat⟩:=World.cells?_some e1;obtain⟨s,lv,rfl,hok,hsv⟩:=qlQ e2;have t0:=hat 0 (by omega);have t1:=hat 1 (by omega);have t2:=hat 2 (by omega);have t3:=hat 3 (by omega);refine⟨s,hok,lv,⟨?_,?_,?_,?_⟩,hsv⟩
    ·simpa [Addr.add] using t0
    ·simpa using t1
    ·simpa using t2
    ·simpa using t3
   obtain⟨z,hr1,hr2⟩:=qeu len _ key;obtain⟨_,_,_,⟨hs0,_⟩,_⟩:=key 0 (by omega);obtain⟨b,off,spot⟩:=x;have hspot:spot=none:=by simpa [Addr.add] using World.cell?_spot hs0
   subst hspot;refine⟨z,hr1,.inr ⟨b,off,cap,by rw[hr1],?_,by omega,hm,fun i hi=>?_⟩,fun s hs=>?_,by omega⟩
   ·obtain⟨o,ho,_⟩:=cells_of_cell hs0;have:=(Array.getElem?_eq_some_iff.1 ho).1;simpa [Addr.add] using this
   ·obtain⟨_,lv,hc,hL⟩:=hr2 i hi;rw[show(⟨b,off,none⟩:Addr).add (i*4)=⟨b,off+i*4,none⟩ by simp[Addr.add]] at hc;simp only[Addr.add] at hc;rw[List.getD_eq_getElem?_getD,List.getElem?_eq_getElem hi];exact⟨lv,hc,hL⟩
   ·obtain⟨i,hi,rfl⟩:=List.mem_iff_getElem.1 hs;exact(hr2 i hi).1
end
end Go.Proofs.YtdeimnnpcfncpaaGreatDoor.X
end
section
namespace Go.Proofs.YtdeimnnpcfncpaaGreatDoor
open Go Go.RowKit
theorem X.expoWrites_any (v:Value) (ss:List X.Smp) (hl:ss.length≤9223372036854775807) (hf: ∀s∈ss,X.SwF s) (w:World) (hG:X.EGlb w) (hv:X.SLRow w v ss):Calls Tryz.prog 8 #[v] w fun e w'=>e= .returned (.bool true)∧Below w.heap.size w w':=by
 obtain⟨a,c,rfl⟩:=hv.shape;have cw:=Lh (X.writes_to _ ss hl hf w hG hv);have GG:=Lh (fun W (hb:Below w.heap.size w W)=>X.awake_any W (hG.on hb));obtain⟨n,hn⟩: ∃n,n=ss.length:=⟨_,rfl⟩;rw[←hn] at cw⊢;clear hv hf hG hl hn;go_enter Tryz.func8,Tryz.ntmps8;go_wp2_with fail;refine cw.out.mono ?_;rintro e w1 ⟨rfl,B1⟩;replace B1:=Lh B1;clear cw;go_wp2_with fail;refine(GG.out _ B1.out).mono ?_;rintro e w2 ⟨rfl,B2⟩;have B3:=B1.out.trans (B2.mono B1.out.size);go_wp2_with fail;go_ret;exact⟨rfl,B3⟩
theorem expoWrites_walk (a0:Option Addr) (len0 cap0:Nat) (z0:List X.Smp) (w:World) (l0:z0.length=len0) (w0:X.SLRow w (.slice a0 len0 cap0) z0) (f0: ∀s∈z0,X.SwF s) (m0:len0≤maxLen) (hG:X.EGlb w):
 Calls Tryz.prog 8 #[.slice a0 len0 cap0] w fun e w'=>e= .returned (.bool true)∧Below w.heap.size w w':=
 X.expoWrites_any _ z0 (by unfold maxLen at m0;omega) f0 w hG w0
end Go.Proofs.YtdeimnnpcfncpaaGreatDoor
end
