/- Parts of the proof: BA BB BC2. -/
import Derived.Test.YtdeimnnpcfncpaaGreatDoorCY47
import Derived.Test.YtdeimnnpcfncpaaGreatDoorCY48
set_option linter.unusedVariables false
set_option linter.unusedSimpArgs false
set_option maxRecDepth 100000
set_option maxHeartbeats 64000000
section
namespace Go.Proofs.YtdeimnnpcfncpaaGreatDoor.X
open Go Go.RowKit
def EB (E:Nat) (b:Nat→Nat) (W:World):Prop:=E<W.heap.size∧ ∀i,i<8→W.cell? ⟨E,i,none⟩=some (.int .u8 (b i:Int))
theorem EB.on {E:Nat} {b:Nat→Nat} {W W':World} (h:EB E b W) (hb:Below W.heap.size W W'):EB E b W':=⟨Nat.lt_of_lt_of_le h.1 hb.size,fun i hi=>(hb.cell (p:=⟨E,i,none⟩) h.1).trans (h.2 i hi)⟩
def wb (b:Nat→Nat) (i:Nat):List UInt8:=qqF.getD (b i%5) []
theorem qcm (b:Nat→Nat) (i:Nat):wb b i∈qqF:=qdz (show b i%5<qqF.length from Nat.mod_lt _ (by decide))
theorem qim (E:Nat) (b:Nat→Nat) (hb: ∀i,b i<256) (i:Nat) (hi:i<8) (w:World) (h:EB E b w):Calls Tryz.prog 22 #[.int .i64 (i:Int),.pointer (some ⟨E,0,none⟩)] w fun e w'=>e= .returned (.string (BS (wb b i)))∧Below w.heap.size w w':=by
 have c:=h.2 i hi;have hE:=h.1;obtain⟨m,hm⟩: ∃m,Hid (b i%5=m):=⟨_,Lh rfl⟩;have l5:m<5:=by have:=hm.out;omega
 obtain⟨vb,hvb⟩: ∃v,Hid (wb b i=v):=⟨_,Lh rfl⟩;have hvm:Hid (vb=qqF.getD m []):=Lh (by rw[←hvb.out,←hm.out];rfl);rw[hvb.out];obtain⟨n,hn⟩: ∃n,n=b i:=⟨_,rfl⟩;have hnb:=hb i;rw[←hn] at c hm hnb;have e5:((n:Int)%5)=(m:Int):=by have:=hm.out;omega
 have e5t:((n:Int).tmod 5)=(m:Int):=by rw[Int.tmod_eq_emod_of_nonneg (by omega)];exact e5
 have e5u:0≤(n:Int).tmod 5∧(n:Int).tmod 5<5:=by rw[e5t];omega
 have d5:decide (m<5)=true:=dT l5;have d5':decide ((m:Int)<5)=true:=dT (by omega);have p0:(0:Int)≤(m:Int):=by omega
 have p4:(m:Int)<5:=by omega
 have i0:(0:Int)≤(i:Int):=by omega
 have i8:(i:Int)<8:=by omega
 have d8:decide (i<8)=true:=dT hi
 have cB: ∀W:World,(W.alloc (.cells #[.string ⟨#[]⟩,.string ⟨#[32]⟩,.string ⟨#[9]⟩,.string ⟨#[32,9,32]⟩,.string ⟨#[32,32]⟩] 9)).cell? ⟨W.heap.size,m,none⟩=some (.string (BS vb)):=fun W=>by
  rw[Lib.cell_of_heap (World.alloc_heap_new _ _),hvm.out];rcases(show m=0∨m=1∨m=2∨m=3∨m=4 by omega)with rfl|rfl|rfl|rfl|rfl<;>rfl
 have Bx:=(Below.refl w.heap.size w).alloc (Nat.le_refl _) (.cells #[.string ⟨#[]⟩,.string ⟨#[32]⟩,.string ⟨#[9]⟩,.string ⟨#[32,9,32]⟩,.string ⟨#[32,32]⟩] 9);have c2:=(Bx.cell (p:=⟨E,i,none⟩) hE).trans c;replace Bx:=Lh Bx;clear h hn hb hvb hm;go_enter Tryz.func22,Tryz.ntmps22;go_wp2_with fail;go_ret;exact⟨rfl,Bx.out⟩
section
variable {P:Program} {ops:Array Oper} {Q:Exit→Act→World→Prop} {a:Act} {w:World} {K:Act→World→Prop} {i:Nat} {o:Oper}
theorem qa9 {f:FuncId} {args:Array Value} (ho:ops[i]?=some o) (hm:Met ops a o) (hr:(execOp a.eval o).run P w= .ok (.enter f args) w)
 (hc:Calls P f args w fun e w'=> ∃v,e= .returned v∧K (a.put o.dst v) w'):wpOp P ops Q i K a w:=by
 unfold Met at hm;unfold wpOp;simp only[ho,hm,if_true];left;unfold Oper.wp;rw[hr];exact hc.mono fun e w' ⟨v,he,hk⟩=>by subst he;exact hk
end
theorem qdO {ρ:Operand→Value} {x:Operand} {k:Int} {E:Nat} (h22: ∀args W,(callFunc 22 args).run Tryz.prog W= .ok (.enter 22 args) W) {dst:Option Tmp} {ats:Array TypeId} {ty:TypeId} {pos:String} {after:Array Edge} {guard:Option (Nat×Bool)} (hx:ρ x= .func (.func 22) #[] #[.pointer (some ⟨E,0,none⟩)]) (W:World):
 (execOp ρ {dst,op:= .call {callee:= .value x,args:=#[.const (.int .i64 k)],argTypes:=ats},type:=ty,pos,after,guard}).run Tryz.prog W= .ok (.enter 22 #[ρ (.const (.int .i64 k)),.pointer (some ⟨E,0,none⟩)]) W:=by
 have e:resolve ρ {callee:= .value x,args:=#[.const (.int .i64 k)],argTypes:=ats} ty=pure {target:= .fn (.func 22) #[.pointer (some ⟨E,0,none⟩)],args:=#[ρ (.const (.int .i64 k))]}:=by
  show Deferred.ofValue (ρ x) _=_;rw[hx];simp[Deferred.ofValue]
 unfold execOp;dsimp only;rw[e];exact h22 _ _
theorem qpk {W:World} {B:Nat} {v0 v1 v2 v3 v4:Value} (h:W.heap[B]?=some (.cells #[v0,v1,v2,v3,v4] 26)):W.cell? ⟨B,0,none⟩=some v0∧W.cell? ⟨B,1,none⟩=some v1∧W.cell? ⟨B,2,none⟩=some v2∧W.cell? ⟨B,3,none⟩=some v3∧W.cell? ⟨B,4,none⟩=some v4:=by
 refine⟨?_,?_,?_,?_,?_⟩
 all_goals rw[Lib.cell_of_heap h];rfl
def XV (L:List Value) (i:Nat) (v:Value) (_w:World):Prop:=v=L.getD i undef
theorem qf6 (D k:Nat) (hk:k<4) (w:World):(Instr.fieldAt 34 (.pointer (some ⟨D,0,none⟩)) k).run Tryz.prog w= .ok (.pointer (some ⟨D,k,none⟩)) w:=by
 rcases(show k=0∨k=1∨k=2∨k=3 by omega)with rfl|rfl|rfl|rfl<;>go_simp
theorem qj4 (D:Nat) (w:World):(Instr.fieldAt 44 (.pointer (some ⟨D,0,none⟩)) 0).run Tryz.prog w= .ok (.pointer (some ⟨D,0,none⟩)) w:=by
 go_simp
theorem qaJ (x y:List UInt8) (p q:Operand) (w:World) (h:x.length+y.length≤9223372036854775807):(do eqGuard .add 9 p q (.string (BS x)) (.string (BS y));binOp .add 9 (.string (BS x)) (.string (BS y)):Sem Value).run Tryz.prog w= .ok (.string (BS (x++y))) w:=by
 have h2:(BS x).size+(BS y).size≤9223372036854775807:=by rw[qac,qac];exact h
 rw[←qaM];go_simp
theorem qs5 (W:World) (n:List UInt8):qcN (W.alloc (.cells #[.string (BS n)] 9)) W.heap.size [n]:=by
 refine⟨by simp,fun i hi=>?_⟩;obtain rfl:i=0:=by simpa using hi
 rw[Lib.cell_of_heap (World.alloc_heap_new _ _)];rfl
theorem qqP (W:World) (b:Nat→Nat) (t:TypeId):EB W.heap.size b (W.alloc (.cells #[.int .u8 (b 0:Int),.int .u8 (b 1:Int),.int .u8 (b 2:Int),.int .u8 (b 3:Int),.int .u8 (b 4:Int),.int .u8 (b 5:Int),.int .u8 (b 6:Int),.int .u8 (b 7:Int)] t)):=by
 refine⟨by simp,fun i hi=>?_⟩;rw[Lib.cell_of_heap (World.alloc_heap_new _ _)];rcases(show i=0∨i=1∨i=2∨i=3∨i=4∨i=5∨i=6∨i=7 by omega)with rfl|rfl|rfl|rfl|rfl|rfl|rfl|rfl<;>rfl
theorem expoBlanks_any (x:Sm) (lv:Value) (b:Nat→Nat) (turn:Nat) (hb: ∀i,b i<256) (htn:turn<256) (w:World) (hx:SmOk x) (hlv:SmV w lv x) (hG:EGlb w):
 Calls Tryz.prog 4 #[.agg #[.int .u8 (x.nm:Int),lv,.int .u64 (x.bits:Int),.int .i64 x.tm,.bool x.td],.agg #[.int .u8 (b 0:Int),.int .u8 (b 1:Int),.int .u8 (b 2:Int),.int .u8 (b 3:Int),.int .u8 (b 4:Int),.int .u8 (b 5:Int),.int .u8 (b 6:Int),.int .u8 (b 7:Int)],.int .u8 (turn:Int)] w fun e w'=>e= .returned (.bool true)∧Below w.heap.size w w':=by
 obtain⟨la,lc,rfl,hlv2⟩: ∃la lc,lv= .slice la x.qs.length lc∧SmV w lv x:=by
  obtain⟨a,c,h1,h2⟩:=hlv;exact⟨a,c,h1,a,c,h1,h2⟩
 have GG:=Lh (fun W (hb:Below w.heap.size w W)=>hG.on hb);have hA:=Lh (fun W (hb:Below w.heap.size w W)=>qj0 W (hG.on hb));have hmk:=Lh (fun W (hb:Below w.heap.size w W)=>qpX x hx _ W (hlv2.on hb));have NX:(w.alloc (.cells #[.int .u8 (x.nm:Int),.slice la x.qs.length lc,.int .u64 (x.bits:Int),.int .i64 x.tm,.bool x.td] 26)).heap[w.heap.size]?=some (.cells #[.int .u8 (x.nm:Int),.slice la x.qs.length lc,.int .u64 (x.bits:Int),.int .i64 x.tm,.bool x.td] 26):=World.alloc_heap_new _ _;have Bw:=(Below.refl w.heap.size w).alloc (Nat.le_refl _) (.cells #[.int .u8 (x.nm:Int),.slice la x.qs.length lc,.int .u64 (x.bits:Int),.int .i64 x.tm,.bool x.td] 26);have By:=(Below.refl (w.alloc (.cells #[.int .u8 (x.nm:Int),.slice la x.qs.length lc,.int .u64 (x.bits:Int),.int .i64 x.tm,.bool x.td] 26)).heap.size (w.alloc (.cells #[.int .u8 (x.nm:Int),.slice la x.qs.length lc,.int .u64 (x.bits:Int),.int .i64 x.tm,.bool x.td] 26))).alloc (Nat.le_refl _) (.cells #[.int .u8 (b 0:Int),.int .u8 (b 1:Int),.int .u8 (b 2:Int),.int .u8 (b 3:Int),.int .u8 (b 4:Int),.int .u8 (b 5:Int),.int .u8 (b 6:Int),.int .u8 (b 7:Int)] 51);have HE:=qqP (w.alloc (.cells #[.int .u8 (x.nm:Int),.slice la x.qs.length lc,.int .u64 (x.bits:Int),.int .i64 x.tm,.bool x.td] 26)) b 51;rw[World.size_alloc] at HE;have NX2:=(By.block w.heap.size (Array.getElem?_eq_some_iff.1 NX).1).trans NX;have B0:=Lh (Bw.trans (By.mono Bw.size));replace HE:=Lh HE;replace NX2:=Lh NX2;obtain⟨nm,bits,tm,td,qs⟩:=x;simp only at hmk NX2 B0 HE⊢;obtain⟨ql,hql⟩: ∃q,q=qs.length:=⟨_,rfl⟩;rw[←hql] at hmk NX2 B0 HE⊢;clear hG hx hlv hlv2 hql NX Bw By;go_enter Tryz.func4,Tryz.ntmps4;go_wp2_with fail;refine(hA.out _ B0.out).mono ?_;rintro e w1 ⟨rfl,Bx⟩;have B1:=Lh (B0.out.trans (Bx.mono B0.out.size));replace HE:=Lh (HE.out.on Bx);obtain⟨x0,x1,x2,x3,x4⟩:=qpk ((Bx.block w.heap.size (Array.getElem?_eq_some_iff.1 NX2.out).1).trans NX2.out);clear hA Bx NX2 B0;go_upto_region 3 with (fail)
 go_wp2_with fail;refine(hmk.out _ B1.out).mono ?_;rintro e w3 ⟨Bx,v,s,rfl,hmd,sv,rfl,hown⟩;obtain⟨a2,c2,rfl⟩:=qae hown;have By:Below w3.heap.size w3 (w3.alloc (.cells #[.slice a2 s.ls.length c2,.int .u64 (s.bits:Int),.bool s.st,.int .i64 s.t] 34)):=(Below.refl _ _).alloc (Nat.le_refl _) _;have N7:SB w3.heap.size (.slice a2 s.ls.length c2) (s.bits:Int) s.st s.t (w3.alloc (.cells #[.slice a2 s.ls.length c2,.int .u64 (s.bits:Int),.bool s.st,.int .i64 s.t] 34)):=World.alloc_heap_new w3 _;have Bz:=Bx.trans (By.mono Bx.size);have B3:=Lh (B1.out.trans (Bz.mono B1.out.size));replace HE:=Lh (HE.out.on Bz);have hown2:=qah hown By;have hLR:=qaN.of_owned hown2;have hok:=hmd.ok;have hsb:=SOk.sbt hmd;have hmdh:=Lh hmd;have c0:=N7.c0;have c1:=N7.c1;have c2':=N7.c2;have c3:=N7.c3;have cl:=fun W (hb:Below (w3.alloc (.cells #[.slice a2 s.ls.length c2,.int .u64 (s.bits:Int),.bool s.st,.int .i64 s.t] 34)).heap.size (w3.alloc (.cells #[.slice a2 s.ls.length c2,.int .u64 (s.bits:Int),.bool s.st,.int .i64 s.t] 34)) W)=>qkv (.agg #[.slice a2 s.ls.length c2,.int .u64 (s.bits:Int),.bool s.st,.int .i64 s.t]) s hsb.1 hsb.2.1 hsb.2.2 W (GG.out W (B3.out.trans (hb.mono B3.out.size))) ⟨_,rfl,hLR.on hb⟩
 simp only[hok.line] at cl;replace cl:=Lh cl;replace hLR:=Lh hLR;obtain⟨tl,htl⟩: ∃tl,Hid (qbT s=tl):=⟨_,Lh rfl⟩;rw[htl.out] at cl;have htll:tl.length≤5000:=by rw[←htl.out];exact hok.l
 have hrl:=Lh ((qaZ hok.r).1);have hsbh:=Lh hsb;clear Bx By Bz hmk hown hown2 hmd x0 x1 x2 x3 x4 hok hsb;go_upto_region 6 with (fail)
 obtain⟨ls,sb,sst,stt⟩:=s;simp only at N7 B3 c0 c1 c2' c3 cl hLR hrl HE;obtain⟨nl,hnl⟩: ∃n,n=ls.length:=⟨_,rfl⟩;rw[←hnl] at N7 B3 c0 c1 c2' c3 cl hLR HE;simp only[];rw[←hnl];have hnlh:=Lh hnl;generalize w3.alloc (.cells #[.slice a2 nl c2,.int .u64 (sb:Int),.bool sst,.int .i64 stt] 34)=w4 at*;have hD4:=N7.lt;generalize w3.heap.size=D at*;replace N7:=Lh N7;clear hnl;go_wp2_with fail;refine(cl.out _ (Below.refl _ _)).mono ?_;rintro e w5 ⟨rfl,Bx⟩;have B5:=Lh (B3.out.trans (Bx.mono B3.out.size));replace N7:=N7.out.on Bx;replace HE:=Lh (HE.out.on Bx);replace hLR:=Lh (hLR.out.on Bx);have c0:=N7.c0;replace N7:=Lh N7;have cd:=Lh (qpm (.slice a2 nl c2) ls qag hrl.out hsbh.out.1.b w5.heap.size 1 (w5.alloc (.cells #[.string (BS qag)] 9)) (qs5 w5 qag) (hLR.out.on ((Below.refl _ _).alloc (Nat.le_refl _) _)));have Bn:=(Below.refl w5.heap.size w5).alloc (Nat.le_refl _) (.cells #[.string (BS qag)] 9);have Bnh:=Lh Bn;clear Bx Bn cl c1 c2' c3;go_wp2_with fail;refine cd.out.mono ?_;rintro e w6 ⟨v2,rfl,hown3,hb6⟩;have b6:=(Bnh.out.trans (hb6.mono Bnh.out.size));have B6:=Lh (B5.out.trans (b6.mono B5.out.size));replace N7:=N7.out.on b6;replace HE:=Lh (HE.out.on b6);replace hLR:=Lh (hLR.out.on b6);have hLd:=qaN.of_owned hown3;obtain⟨dl,hdl⟩: ∃d,Hid (qft ls qag=d):=⟨_,Lh rfl⟩;rw[hdl.out] at hLd hown3;obtain⟨a3,c3x,rfl⟩:=qae hown3;obtain⟨nd,hnd⟩: ∃n,n=dl.length:=⟨_,rfl⟩;rw[←hnd] at hLd⊢;have hndh:=Lh hnd;replace hLd:=Lh hLd;have c0:=N7.c0;have c1:=N7.c1;have c2':=N7.c2;have c3:=N7.c3;have hDl:=N7.lt;replace N7:=Lh N7;clear hown3 hb6 b6 cd Bnh hnd;have h22: ∀args W,(callFunc 22 args).run Tryz.prog W= .ok (.enter 22 args) W:=enters_of Tryz.func22 (by kernel_rfl) rfl;have h23: ∀args W,(callFunc 23 args).run Tryz.prog W= .ok (.enter 23 args) W:=enters_of Tryz.func23 (by kernel_rfl) rfl;replace h22:=Lh h22;replace h23:=Lh h23;have cw:=Lh (fun k (hk:k<8) W (hB:Below w6.heap.size w6 W)=>qim (w.heap.size+1) b hb k hk W (HE.out.on hB));have cg:=Lh (fun W (hB:Below w6.heap.size w6 W)=>qhh (.slice a2 nl c2) ls qag (by have:=hsbh.out.1.n;simp only at this;omega) W (hLR.out.on hB));obtain⟨gn,hgn⟩: ∃g,Hid (qaI ls qag=g):=⟨_,Lh rfl⟩;rw[hgn.out] at cg;have hgnl:gn.length≤1000000000:=by rw[←hgn.out];exact qjU ls qag hsbh.out.1.b
 have hw0:=(qcs (qcm b 0)).2;have hw1:=(qcs (qcm b 1)).2;have hw2:=(qcs (qcm b 2)).2;have hw3:=(qcs (qcm b 3)).2;have hw4:=(qcs (qcm b 4)).2;have hw5:=(qcs (qcm b 5)).2;have hw6:=(qcs (qcm b 6)).2;have hw7:=(qcs (qcm b 7)).2;have Br6:=Lh (Below.refl w6.heap.size w6);go_upto_region 13 with (fail)
 refine qbs w6.heap.size (Nat.le_refl _) (fun j=>([[],[0],[],[2],[3],[1,4],[],[6],[5,7],[8],[],[10],[9,11],[12]]:List (List Nat)).getD j []) [13] [] [] (XV [(.func (.func 22) #[] #[.pointer (some ⟨w.heap.size+1,0,none⟩)]:Value),(.string (BS (wb b 0)):Value),(.pointer (some ⟨D,0,none⟩):Value),(.slice a2 nl c2:Value),(.string (BS (gn)):Value),(.string (BS (wb b 0++gn)):Value),(.func (.func 22) #[] #[.pointer (some ⟨w.heap.size+1,0,none⟩)]:Value),(.string (BS (wb b 1)):Value),(.string (BS (wb b 0++gn++wb b 1)):Value),(.string (BS (wb b 0++gn++wb b 1++[123])):Value),(.func (.func 22) #[] #[.pointer (some ⟨w.heap.size+1,0,none⟩)]:Value),(.string (BS (wb b 2)):Value),(.string (BS (wb b 0++gn++wb b 1++[123]++wb b 2)):Value),(.string (BS (wb b 0++gn++wb b 1++[123]++wb b 2)):Value)])
  (by kernel_rfl) (by kernel_rfl) (by decide+kernel) (by kernel_rfl) (by decide+kernel) (fun j hj=>by rw[List.getD_eq_getElem?_getD,List.getElem?_eq_none (show 14≤j from hj)];rfl) (by decide+kernel) (fun i v w w' h _=>h) (fun i v w w' _ _ h _=>h) ?_ ?_
 ·intro i;rcases i with _|_|_|_|_|_|_|_|_|_|_|_|_|_|i
  all_goals intro oo hoo a wa hba hout hsoft hpre
  all_goals cases hoo
  ·exact qal rfl (qab rfl) (.inl rfl) ⟨_,rfl,Below.refl _ _,(hout 11 (by kernel_rfl)).trans rfl⟩
  ·have e0:a.tmps.getD 44 undef= .func (.func 22) #[] #[.pointer (some ⟨w.heap.size+1,0,none⟩)]:=hpre 0 (by simp) _ rfl;refine qa9 rfl (qab rfl) (qdO h22.out e0 wa) ((cw.out 0 (by decide) wa (Br6.out.trans (hba.mono Br6.out.size))).mono ?_);rintro e w' ⟨rfl,hb'⟩;exact⟨_,rfl,_,rfl,hb',rfl⟩
  ·exact qbG rfl (qab rfl) rfl ((hout 7 (by kernel_rfl)).trans rfl) (qf6 _ 0 (by decide) wa) ⟨_,rfl,Below.refl _ _,rfl⟩
  ·have e0:a.tmps.getD 46 undef= .pointer (some ⟨D,0,none⟩):=hpre 2 (by simp) _ rfl;have kk:=(hba.cell (p:=⟨D,0,none⟩) hDl).trans c0;exact qaS rfl (qab rfl) rfl e0 (by simp[go_sem,kk]) ⟨_,rfl,Below.refl _ _,rfl⟩
  ·have e0:a.tmps.getD 47 undef= .slice a2 nl c2:=hpre 3 (by simp) _ rfl;refine qbw rfl (qab rfl) _ (qsn e0 rfl) (h23.out _ _) ((cg.out wa (Br6.out.trans (hba.mono Br6.out.size))).mono ?_);rintro e w' ⟨rfl,hb'⟩;exact⟨_,rfl,_,rfl,hb',rfl⟩
  ·have e0:a.tmps.getD 45 undef= .string (BS (wb b 0)):=hpre 1 (by simp) _ rfl;have e1:a.tmps.getD 48 undef= .string (BS (gn)):=hpre 4 (by simp) _ rfl;exact qat rfl (qab rfl) rfl e0 e1 (qaJ _ _ _ _ wa (by first|omega|(simp only[List.length_append,List.length_cons,List.length_nil];omega))) ⟨_,rfl,Below.refl _ _,rfl⟩
  ·exact qal rfl (qab rfl) (.inl rfl) ⟨_,rfl,Below.refl _ _,(hout 11 (by kernel_rfl)).trans rfl⟩
  ·have e0:a.tmps.getD 50 undef= .func (.func 22) #[] #[.pointer (some ⟨w.heap.size+1,0,none⟩)]:=hpre 6 (by simp) _ rfl;refine qa9 rfl (qab rfl) (qdO h22.out e0 wa) ((cw.out 1 (by decide) wa (Br6.out.trans (hba.mono Br6.out.size))).mono ?_);rintro e w' ⟨rfl,hb'⟩;exact⟨_,rfl,_,rfl,hb',rfl⟩
  ·have e0:a.tmps.getD 49 undef= .string (BS (wb b 0++gn)):=hpre 5 (by simp) _ rfl;have e1:a.tmps.getD 51 undef= .string (BS (wb b 1)):=hpre 7 (by simp) _ rfl;exact qat rfl (qab rfl) rfl e0 e1 (qaJ _ _ _ _ wa (by first|omega|(simp only[List.length_append,List.length_cons,List.length_nil];omega))) ⟨_,rfl,Below.refl _ _,rfl⟩
  ·have e0:a.tmps.getD 52 undef= .string (BS (wb b 0++gn++wb b 1)):=hpre 8 (by simp) _ rfl;exact qat rfl (qab rfl) rfl e0 (show a.eval (.const (.string (BS [123])))= .string (BS [123])from rfl) (qaJ _ _ _ _ wa (by first|omega|(simp only[List.length_append,List.length_cons,List.length_nil];omega))) ⟨_,rfl,Below.refl _ _,rfl⟩
  ·exact qal rfl (qab rfl) (.inl rfl) ⟨_,rfl,Below.refl _ _,(hout 11 (by kernel_rfl)).trans rfl⟩
  ·have e0:a.tmps.getD 54 undef= .func (.func 22) #[] #[.pointer (some ⟨w.heap.size+1,0,none⟩)]:=hpre 10 (by simp) _ rfl;refine qa9 rfl (qab rfl) (qdO h22.out e0 wa) ((cw.out 2 (by decide) wa (Br6.out.trans (hba.mono Br6.out.size))).mono ?_);rintro e w' ⟨rfl,hb'⟩;exact⟨_,rfl,_,rfl,hb',rfl⟩
  ·have e0:a.tmps.getD 53 undef= .string (BS (wb b 0++gn++wb b 1++[123])):=hpre 9 (by simp) _ rfl;have e1:a.tmps.getD 55 undef= .string (BS (wb b 2)):=hpre 11 (by simp) _ rfl;exact qat rfl (qab rfl) rfl e0 e1 (qaJ _ _ _ _ wa (by first|omega|(simp only[List.length_append,List.length_cons,List.length_nil];omega))) ⟨_,rfl,Below.refl _ _,rfl⟩
  ·have e0:a.tmps.getD 56 undef= .string (BS (wb b 0++gn++wb b 1++[123]++wb b 2)):=hpre 12 (by simp) _ rfl;exact qal rfl (qab rfl) (.inr rfl) ⟨_,rfl,Below.refl _ _,e0⟩
 ·intro a wa hba hF9 ha;have f9:a.tmps.getD 13 undef= .string (BS (wb b 0++gn++wb b 1++[123]++wb b 2)):=hF9 13 (by simp) _ rfl;clear hF9;simp only[List.foldl,qap] at ha;rw[f9] at ha;clear f9;generalize a.tmps.getD 44 undef=z44 at ha;generalize a.tmps.getD 45 undef=z45 at ha;generalize a.tmps.getD 46 undef=z46 at ha;generalize a.tmps.getD 47 undef=z47 at ha;generalize a.tmps.getD 48 undef=z48 at ha;generalize a.tmps.getD 49 undef=z49 at ha;generalize a.tmps.getD 50 undef=z50 at ha;generalize a.tmps.getD 51 undef=z51 at ha;generalize a.tmps.getD 52 undef=z52 at ha;generalize a.tmps.getD 53 undef=z53 at ha;generalize a.tmps.getD 54 undef=z54 at ha;generalize a.tmps.getD 55 undef=z55 at ha;generalize a.tmps.getD 56 undef=z56 at ha;subst ha;simp only[Act.put,List.setIfInBounds_toArray,List.set_cons_succ,List.set_cons_zero];have B7:=Lh (B6.out.trans (hba.mono B6.out.size));have N8:=Lh (N7.out.on hba);replace HE:=Lh (HE.out.on hba);replace hLd:=Lh (hLd.out.on hba);replace hLR:=Lh (hLR.out.on hba);clear cw cg c0 c1 c2' c3 hba Br6;obtain⟨hd,hhd⟩: ∃h,Hid (wb b 0++gn++wb b 1++[123]++wb b 2=h):=⟨_,Lh rfl⟩;have hhl:hd.length≤1000000100:=by rw[←hhd.out];simp only[List.length_append,List.length_cons,List.length_nil];omega
  rw[hhd.out];obtain⟨cm,hcm⟩: ∃c,Hid (decide (turn%2=1)=c):=⟨_,Lh rfl⟩;obtain⟨f,hf⟩: ∃f:Nat→Lb,Hid (f=fun j=>dl.getD ((j+turn)%dl.length) lb0):=⟨_,Lh rfl⟩;obtain⟨Qf,hQ⟩: ∃Qf:Nat→List UInt8,Hid (∀i,Qf i=blQ (wb b 3) (wb b 4) (wb b 5) (wb b 6) cm dl.length f i):=⟨_,Lh (fun _=>rfl)⟩;have hdm:Hid (∀x∈dl,x∈ls):=Lh (fun x hx=>by rw[←hdl.out] at hx;exact(List.mem_filter.1 hx).1);have hdv:Hid (∀x∈dl,x.1.length≤128∧x.2.length≤10):=Lh (fun x hx=>by have:=hmdh.out.v x (hdm.out x hx);omega)
  have hnd:nd≤41:=by
   have h1:=hmdh.out.n;have h2:dl.length≤ls.length:=by rw[←hdl.out];exact List.length_filter_le _ _
   simp only at h1;rw[hndh.out];omega
  have hfv:Hid (∀j,(f j).1.length≤128∧(f j).2.length≤129):=Lh (fun j=>by
   rw[hf.out];show(dl.getD _ lb0).1.length≤128∧(dl.getD _ lb0).2.length≤129;rw[List.getD_eq_getElem?_getD]
   cases hx:dl[(j+turn)%dl.length]? with
   |none=>exact⟨by decide,by decide⟩
   |some y=>
    have:=hdv.out y (List.mem_of_getElem? hx);show y.1.length≤128∧y.2.length≤129
    omega)
  have hQl:Hid (∀i,(Qf i).length≤500*i):=Lh (fun i=>by rw[hQ.out];exact qjt _ _ _ _ _ _ _ hw3 hw4 hw5 hw6 hfv.out i);have hQ0:Qf 0=[]:=by rw[hQ.out];rfl
  clear hgnl;go_wp2_with fail;go_loopg [13,59] (nd+1) (fun gk s13 s59 wx=> ∃i:Nat,i≤nd∧nd - i<gk∧s59= .int .i64 (i:Int)∧s13= .string (BS (hd++Qf i))∧Hid (Below wa.heap.size wa wx))
  case atStart=>exact⟨0,by omega,by omega,by go_num,by rw[hQ0,List.append_nil],Lh (Below.refl _ _)⟩
  case round=>
   obtain⟨i,hi,hgk,rfl,rfl,BJ⟩:=hrel;have hQi:=hQl.out i;have hQk:=hQl.out (i+1)
   by_cases hlt:i<nd
   ·have u2:decide ((i:Int)<(nd:Int))=true:=dT (by omega);have u3:decide (i<nd)=true:=dT hlt;obtain⟨q,hq⟩: ∃q,Hid ((i+turn)%nd=q):=⟨_,Lh rfl⟩;have hql:q<nd:=by rw[←hq.out];exact Nat.mod_lt _ (by omega)
    have eq1:((i:Int)+(turn:Int))%(nd:Int)=(q:Int):=by rw[←hq.out];simp
    have eq2:((i:Int)+(turn:Int)).tmod (nd:Int)=(q:Int):=by rw[Int.tmod_eq_emod_of_nonneg (by omega)];exact eq1
    have ez:((nd:Int)==0)=false:=by simp;omega
    have ez': ¬((nd:Int)=0):=by omega
    have dq:decide (q<nd)=true:=dT hql;have dq':decide ((q:Int)<(nd:Int))=true:=dT (by omega);have hqd:q<dl.length:=by rw[←hndh.out];exact hql
    obtain⟨b2,off2,rfl,hb2,y1,y2⟩:=(hLd.out.on BJ.out).at' q hqd;have hfi:Hid (f i=dl.getD q lb0):=Lh (by rw[hf.out,←hq.out,hndh.out]);have hxm:dl.getD q lb0∈dl:=by rw[List.getD_eq_getElem?_getD,List.getElem?_eq_getElem hqd];exact List.getElem_mem _
    have hxv:=hdv.out _ hxm;obtain⟨x,hx⟩: ∃x,Hid (dl.getD q lb0=x):=⟨_,Lh rfl⟩;rw[hx.out] at y1 y2 hfi hxv;have hstep:Hid (Qf (i+1)=Qf i++(blT (wb b 3) (wb b 4) (wb b 5) x++qgY (wb b 6) cm nd i)):=Lh (by rw[hQ.out,hQ.out,qh7,hfi.out,hndh.out]);have Bx:=(Below.refl wr.heap.size wr).alloc (Nat.le_refl _) (.cells #[.string (BS x.1),.string (BS x.2)] 44);have X0:(wr.alloc (.cells #[.string (BS x.1),.string (BS x.2)] 44)).cell? ⟨wr.heap.size,0,none⟩=some (.string (BS x.1)):=by rw[Lib.cell_of_heap (World.alloc_heap_new _ _)];rfl
    have X1:(wr.alloc (.cells #[.string (BS x.1),.string (BS x.2)] 44)).cell? ⟨wr.heap.size,1,none⟩=some (.string (BS x.2)):=by rw[Lib.cell_of_heap (World.alloc_heap_new _ _)];rfl
    have hXl:wr.heap.size<(wr.alloc (.cells #[.string (BS x.1),.string (BS x.2)] 44)).heap.size:=by simp
    have BK:=Lh (BJ.out.trans (Bx.mono BJ.out.size));have B8:=Lh (B7.out.trans (BK.out.mono B7.out.size));clear Bx hxm hqd hfi hx hq;go_upto_region 18 with (fail)
    generalize wr.alloc (.cells #[.string (BS x.1),.string (BS x.2)] 44)=w8 at*;generalize wr.heap.size=X at*;have lq0:=qfu 92 92 92 x.2;obtain⟨v1,hv1⟩: ∃v,Hid ((x.2.flatMap fun c=>if c=92 then [92,92] else [c])=v):=⟨_,Lh rfl⟩;rw[hv1.out] at lq0;have lq1:=qfu 10 92 110 v1;obtain⟨v2,hv2⟩: ∃v,Hid ((v1.flatMap fun c=>if c=10 then [92,110] else [c])=v):=⟨_,Lh rfl⟩;rw[hv2.out] at lq1;have lq2:=qfu 34 92 34 v2;obtain⟨v3,hv3⟩: ∃v,Hid ((v2.flatMap fun c=>if c=34 then [92,34] else [c])=v):=⟨_,Lh rfl⟩;rw[hv3.out] at lq2;have hv:Hid (v3=L.quL x.2):=Lh (by rw[←hv3.out,←hv2.out,←hv1.out];exact qke x.2)
    have r1: ∀W,Below w8.heap.size w8 W→Calls Tryz.prog 24 #[.string (BS x.2),.string ⟨#[92]⟩,.string ⟨#[92,92]⟩] W fun e w'=>e= .returned (.string (BS v1))∧Below W.heap.size W w':=fun W hB=>by
     rw[←hv1.out];exact qho 92 [92,92] x.2 (by decide) (by omega) (by decide) W (GG.out _ (B8.out.trans (hB.mono B8.out.size)))
    have r2: ∀W,Below w8.heap.size w8 W→Calls Tryz.prog 24 #[.string (BS v1),.string ⟨#[10]⟩,.string ⟨#[92,110]⟩] W fun e w'=>e= .returned (.string (BS v2))∧Below W.heap.size W w':=fun W hB=>by
     rw[←hv2.out];exact qho 10 [92,110] v1 (by decide) (by omega) (by decide) W (GG.out _ (B8.out.trans (hB.mono B8.out.size)))
    have r3: ∀W,Below w8.heap.size w8 W→Calls Tryz.prog 24 #[.string (BS v2),.string ⟨#[34]⟩,.string ⟨#[92,34]⟩] W fun e w'=>e= .returned (.string (BS v3))∧Below W.heap.size W w':=fun W hB=>by
     rw[←hv3.out];exact qho 34 [92,34] v2 (by decide) (by omega) (by decide) W (GG.out _ (B8.out.trans (hB.mono B8.out.size)))
    replace r1:=Lh r1;replace r2:=Lh r2;replace r3:=Lh r3;go_wp2_with fail;refine(r1.out _ (Below.refl _ _)).mono ?_;rintro e w9 ⟨rfl,k1⟩;go_wp2_with fail;refine(r2.out _ k1).mono ?_;rintro e w10 ⟨rfl,k2⟩;have k2':=k1.trans (k2.mono k1.size);go_wp2_with fail;refine(r3.out _ k2').mono ?_;rintro e w11 ⟨rfl,k3⟩;have k3':=k2'.trans (k3.mono k2'.size);have Y0:=(k3'.cell (p:=⟨X,0,none⟩) hXl).trans X0;have BL:=Lh (BK.out.trans (k3'.mono BK.out.size));have hX11:X<w11.heap.size:=Nat.lt_of_lt_of_le hXl k3'.size;have HE1:=Lh (HE.out.on BL.out);have cw:=Lh (fun k (hk:k<8) W (hB:Below w11.heap.size w11 W)=>qim (w.heap.size+1) b hb k hk W (HE1.out.on hB));have Br:=Lh (Below.refl w11.heap.size w11);clear k1 k2 k2' k3 k3' r1 r2 r3 X0 X1 BK B8 hv1 hv2 hv3 y1 y2;go_upto_region 19 with (fail)
    refine qbs w11.heap.size (Nat.le_refl _) (fun j=>([[],[],[1],[],[3],[2,4],[5],[],[7],[6,8],[9],[],[10,11],[12],[],[14],[13,15],[0,16],[17]]:List (List Nat)).getD j []) [18] [] [] (XV [(.string (BS (hd++Qf i)):Value),(.pointer (some ⟨X,0,none⟩):Value),(.string (BS (x.1)):Value),(.func (.func 22) #[] #[.pointer (some ⟨w.heap.size+1,0,none⟩)]:Value),(.string (BS (wb b 3)):Value),(.string (BS (x.1++wb b 3)):Value),(.string (BS (x.1++wb b 3++[61])):Value),(.func (.func 22) #[] #[.pointer (some ⟨w.heap.size+1,0,none⟩)]:Value),(.string (BS (wb b 4)):Value),(.string (BS (x.1++wb b 3++[61]++wb b 4)):Value),(.string (BS (x.1++wb b 3++[61]++wb b 4++[34])):Value),(.string (BS (v3)):Value),(.string (BS (x.1++wb b 3++[61]++wb b 4++[34]++v3)):Value),(.string (BS (x.1++wb b 3++[61]++wb b 4++[34]++v3++[34])):Value),(.func (.func 22) #[] #[.pointer (some ⟨w.heap.size+1,0,none⟩)]:Value),(.string (BS (wb b 5)):Value),(.string (BS (x.1++wb b 3++[61]++wb b 4++[34]++v3++[34]++wb b 5)):Value),(.string (BS ((hd++Qf i)++(x.1++wb b 3++[61]++wb b 4++[34]++v3++[34]++wb b 5))):Value),(.string (BS ((hd++Qf i)++(x.1++wb b 3++[61]++wb b 4++[34]++v3++[34]++wb b 5))):Value)])
     (by kernel_rfl) (by kernel_rfl) (by decide+kernel) (by kernel_rfl) (by decide+kernel) (fun j hj=>by rw[List.getD_eq_getElem?_getD,List.getElem?_eq_none (show 19≤j from hj)];rfl) (by decide+kernel) (fun i v w w' h _=>h) (fun i v w w' _ _ h _=>h) ?_ ?_
    ·intro i;rcases i with _|_|_|_|_|_|_|_|_|_|_|_|_|_|_|_|_|_|_|i
     all_goals intro oo hoo a wa2 hba hout hsoft hpre
     all_goals cases hoo
     ·exact qal rfl (qab rfl) (.inl rfl) ⟨_,rfl,Below.refl _ _,(hout 13 (by kernel_rfl)).trans rfl⟩
     ·exact qbG rfl (qab rfl) rfl ((hout 15 (by kernel_rfl)).trans rfl) (qj4 _ wa2) ⟨_,rfl,Below.refl _ _,rfl⟩
     ·have e0:a.tmps.getD 78 undef= .pointer (some ⟨X,0,none⟩):=hpre 1 (by simp) _ rfl;have kk:=(hba.cell (p:=⟨X,0,none⟩) hX11).trans Y0;exact qaS rfl (qab rfl) rfl e0 (by simp[go_sem,kk]) ⟨_,rfl,Below.refl _ _,rfl⟩
     ·exact qal rfl (qab rfl) (.inl rfl) ⟨_,rfl,Below.refl _ _,(hout 11 (by kernel_rfl)).trans rfl⟩
     ·have e0:a.tmps.getD 80 undef= .func (.func 22) #[] #[.pointer (some ⟨w.heap.size+1,0,none⟩)]:=hpre 3 (by simp) _ rfl;refine qa9 rfl (qab rfl) (qdO h22.out e0 wa2) ((cw.out 3 (by decide) wa2 (Br.out.trans (hba.mono Br.out.size))).mono ?_);rintro e w' ⟨rfl,hb'⟩;exact⟨_,rfl,_,rfl,hb',rfl⟩
     ·have e0:a.tmps.getD 79 undef= .string (BS (x.1)):=hpre 2 (by simp) _ rfl;have e1:a.tmps.getD 81 undef= .string (BS (wb b 3)):=hpre 4 (by simp) _ rfl;exact qat rfl (qab rfl) rfl e0 e1 (qaJ _ _ _ _ wa2 (by first|omega|(simp only[List.length_append,List.length_cons,List.length_nil];omega))) ⟨_,rfl,Below.refl _ _,rfl⟩
     ·have e0:a.tmps.getD 82 undef= .string (BS (x.1++wb b 3)):=hpre 5 (by simp) _ rfl;exact qat rfl (qab rfl) rfl e0 (show a.eval (.const (.string (BS [61])))= .string (BS [61])from rfl) (qaJ _ _ _ _ wa2 (by first|omega|(simp only[List.length_append,List.length_cons,List.length_nil];omega))) ⟨_,rfl,Below.refl _ _,rfl⟩
     ·exact qal rfl (qab rfl) (.inl rfl) ⟨_,rfl,Below.refl _ _,(hout 11 (by kernel_rfl)).trans rfl⟩
     ·have e0:a.tmps.getD 84 undef= .func (.func 22) #[] #[.pointer (some ⟨w.heap.size+1,0,none⟩)]:=hpre 7 (by simp) _ rfl;refine qa9 rfl (qab rfl) (qdO h22.out e0 wa2) ((cw.out 4 (by decide) wa2 (Br.out.trans (hba.mono Br.out.size))).mono ?_);rintro e w' ⟨rfl,hb'⟩;exact⟨_,rfl,_,rfl,hb',rfl⟩
     ·have e0:a.tmps.getD 83 undef= .string (BS (x.1++wb b 3++[61])):=hpre 6 (by simp) _ rfl;have e1:a.tmps.getD 85 undef= .string (BS (wb b 4)):=hpre 8 (by simp) _ rfl;exact qat rfl (qab rfl) rfl e0 e1 (qaJ _ _ _ _ wa2 (by first|omega|(simp only[List.length_append,List.length_cons,List.length_nil];omega))) ⟨_,rfl,Below.refl _ _,rfl⟩
     ·have e0:a.tmps.getD 86 undef= .string (BS (x.1++wb b 3++[61]++wb b 4)):=hpre 9 (by simp) _ rfl;exact qat rfl (qab rfl) rfl e0 (show a.eval (.const (.string (BS [34])))= .string (BS [34])from rfl) (qaJ _ _ _ _ wa2 (by first|omega|(simp only[List.length_append,List.length_cons,List.length_nil];omega))) ⟨_,rfl,Below.refl _ _,rfl⟩
     ·exact qal rfl (qab rfl) (.inl rfl) ⟨_,rfl,Below.refl _ _,(hout 16 (by kernel_rfl)).trans rfl⟩
     ·have e0:a.tmps.getD 87 undef= .string (BS (x.1++wb b 3++[61]++wb b 4++[34])):=hpre 10 (by simp) _ rfl;have e1:a.tmps.getD 88 undef= .string (BS (v3)):=hpre 11 (by simp) _ rfl;exact qat rfl (qab rfl) rfl e0 e1 (qaJ _ _ _ _ wa2 (by first|omega|(simp only[List.length_append,List.length_cons,List.length_nil];omega))) ⟨_,rfl,Below.refl _ _,rfl⟩
     ·have e0:a.tmps.getD 89 undef= .string (BS (x.1++wb b 3++[61]++wb b 4++[34]++v3)):=hpre 12 (by simp) _ rfl;exact qat rfl (qab rfl) rfl e0 (show a.eval (.const (.string (BS [34])))= .string (BS [34])from rfl) (qaJ _ _ _ _ wa2 (by first|omega|(simp only[List.length_append,List.length_cons,List.length_nil];omega))) ⟨_,rfl,Below.refl _ _,rfl⟩
     ·exact qal rfl (qab rfl) (.inl rfl) ⟨_,rfl,Below.refl _ _,(hout 11 (by kernel_rfl)).trans rfl⟩
     ·have e0:a.tmps.getD 91 undef= .func (.func 22) #[] #[.pointer (some ⟨w.heap.size+1,0,none⟩)]:=hpre 14 (by simp) _ rfl;refine qa9 rfl (qab rfl) (qdO h22.out e0 wa2) ((cw.out 5 (by decide) wa2 (Br.out.trans (hba.mono Br.out.size))).mono ?_);rintro e w' ⟨rfl,hb'⟩;exact⟨_,rfl,_,rfl,hb',rfl⟩
     ·have e0:a.tmps.getD 90 undef= .string (BS (x.1++wb b 3++[61]++wb b 4++[34]++v3++[34])):=hpre 13 (by simp) _ rfl;have e1:a.tmps.getD 92 undef= .string (BS (wb b 5)):=hpre 15 (by simp) _ rfl;exact qat rfl (qab rfl) rfl e0 e1 (qaJ _ _ _ _ wa2 (by first|omega|(simp only[List.length_append,List.length_cons,List.length_nil];omega))) ⟨_,rfl,Below.refl _ _,rfl⟩
     ·have e0:a.tmps.getD 77 undef= .string (BS (hd++Qf i)):=hpre 0 (by simp) _ rfl;have e1:a.tmps.getD 93 undef= .string (BS (x.1++wb b 3++[61]++wb b 4++[34]++v3++[34]++wb b 5)):=hpre 16 (by simp) _ rfl;exact qat rfl (qab rfl) rfl e0 e1 (qaJ _ _ _ _ wa2 (by first|omega|(simp only[List.length_append,List.length_cons,List.length_nil];omega))) ⟨_,rfl,Below.refl _ _,rfl⟩
     ·have e0:a.tmps.getD 94 undef= .string (BS ((hd++Qf i)++(x.1++wb b 3++[61]++wb b 4++[34]++v3++[34]++wb b 5))):=hpre 17 (by simp) _ rfl;exact qal rfl (qab rfl) (.inr rfl) ⟨_,rfl,Below.refl _ _,e0⟩
    ·intro a wa2 hba hF9 ha;have f9:a.tmps.getD 13 undef= .string (BS ((hd++Qf i)++(x.1++wb b 3++[61]++wb b 4++[34]++v3++[34]++wb b 5))):=hF9 18 (by simp) _ rfl;clear hF9;simp only[List.foldl,qap] at ha;rw[f9] at ha;clear f9;generalize a.tmps.getD 77 undef=z77 at ha;generalize a.tmps.getD 78 undef=z78 at ha;generalize a.tmps.getD 79 undef=z79 at ha;generalize a.tmps.getD 80 undef=z80 at ha;generalize a.tmps.getD 81 undef=z81 at ha;generalize a.tmps.getD 82 undef=z82 at ha;generalize a.tmps.getD 83 undef=z83 at ha;generalize a.tmps.getD 84 undef=z84 at ha;generalize a.tmps.getD 85 undef=z85 at ha;generalize a.tmps.getD 86 undef=z86 at ha;generalize a.tmps.getD 87 undef=z87 at ha;generalize a.tmps.getD 88 undef=z88 at ha;generalize a.tmps.getD 89 undef=z89 at ha;generalize a.tmps.getD 90 undef=z90 at ha;generalize a.tmps.getD 91 undef=z91 at ha;generalize a.tmps.getD 92 undef=z92 at ha;generalize a.tmps.getD 93 undef=z93 at ha;generalize a.tmps.getD 94 undef=z94 at ha;subst ha;simp only[Act.put,List.setIfInBounds_toArray,List.set_cons_succ,List.set_cons_zero];have BM:=Lh (BL.out.trans (hba.mono BL.out.size));have hT:Hid ((hd++Qf i)++(x.1++wb b 3++[61]++wb b 4++[34]++v3++[34]++wb b 5)=hd++(Qf i++blT (wb b 3) (wb b 4) (wb b 5) x)):=Lh (by unfold blT;rw[hv.out];simp);rw[hT.out];clear cw Y0 hba Br HE1;have HE2:=HE.out.on BM.out;have cw6:=Lh (qim (w.heap.size+1) b hb 6 (by decide) wa2 HE2);obtain⟨T1,hT1⟩: ∃T,Hid (hd++(Qf i++blT (wb b 3) (wb b 4) (wb b 5) x)=T):=⟨_,Lh rfl⟩
     have hT1l:T1.length≤1000200000:=by
      have h1:=congrArg List.length hstep.out;rw[←hT1.out];simp only[List.length_append] at h1⊢;omega
     rw[hT1.out];have z1:=qac T1;have z2:=qac (wb b 6);have z3:(BS (44::wb b 6)).size=(wb b 6).length+1:=by rw[qac];rfl
     have cat1:(⟨#[44]⟩:ByteArray)++BS (wb b 6)=BS (44::wb b 6):=qaM [44] _;have cat2:BS T1++BS (44::wb b 6)=BS (T1++44::wb b 6):=qaM _ _;have hE1:Hid ((decide (i+1<nd)||cm)=true→T1++44::wb b 6=hd++Qf (i+1)):=Lh (fun h=>by rw[hstep.out,←hT1.out];unfold qgY;rw[if_pos h];simp);have hE0:Hid ((decide (i+1<nd)||cm)=false→T1=hd++Qf (i+1)):=Lh (fun h=>by rw[hstep.out,←hT1.out];unfold qgY;rw[if_neg (by rw[h];decide)];simp);clear HE2 hstep hT hT1 hv hxv lq0 lq1 lq2 BL
     by_cases h1:i+1<nd
     ·have t1:decide ((i:Int)<(nd:Int) - 1)=true:=dT (by omega);have hE2:=Lh (hE1.out (by rw[dT h1];rfl));clear hE1 hE0;go_wp2_with fail;refine(cw6.out).mono ?_;rintro e w13 ⟨rfl,k6⟩;have B13:=Lh (BM.out.trans (k6.mono BM.out.size));clear k6 cw6;go_wp2_with fail;go_roundg (gk - 1)
      case measure=>omega
      case rel=>exact⟨i+1,by omega,by omega,by go_num,by rw[hE2.out],B13⟩
     ·have t1:decide ((i:Int)<(nd:Int) - 1)=false:=dF (by omega);obtain⟨pr,hpr⟩: ∃pr,Hid (turn%2=pr):=⟨_,Lh rfl⟩;have lp:pr<2:=by have:=hpr.out;omega
      have ep:((turn:Int)%2)=(pr:Int):=by have:=hpr.out;omega
      have ept:((turn:Int).tmod 2)=(pr:Int):=by rw[Int.tmod_eq_emod_of_nonneg (by omega)];exact ep
      by_cases h2:pr=1
      ·have t2:((pr:Int)==1)=true:=by rw[h2];rfl
       have hE2:=Lh (hE1.out (by rw[←hcm.out,hpr.out,h2];simp));clear hE1 hE0 h2;go_wp2_with fail;refine(cw6.out).mono ?_;rintro e w13 ⟨rfl,k6⟩;have B13:=Lh (BM.out.trans (k6.mono BM.out.size));clear k6 cw6;go_wp2_with fail;go_roundg (gk - 1)
       case measure=>omega
       case rel=>exact⟨i+1,by omega,by omega,by go_num,by rw[hE2.out],B13⟩
      ·have t2:((pr:Int)==1)=false:=by simp;omega
       have hE2:=Lh (hE0.out (by rw[←hcm.out,hpr.out,dF h1,dF h2];rfl));clear hE1 hE0 h2 cw6;go_wp2_with fail;go_roundg (gk - 1)
       case measure=>omega
       case rel=>exact⟨i+1,by omega,by omega,by go_num,by rw[hE2.out],BM⟩
   ·obtain rfl:i=nd:=by omega
    have u2:decide ((i:Int)<(i:Int))=false:=dF (by omega);have B9:=Lh (B7.out.trans (BJ.out.mono B7.out.size));have N9:=N8.out.on BJ.out;have c1:=N9.c1;have hDr:=N9.lt;have HE3:=Lh (HE.out.on BJ.out);have cw:=Lh (fun k (hk:k<8) W (hB:Below wr.heap.size wr W)=>qim (w.heap.size+1) b hb k hk W (HE3.out.on hB));have hbt:=hsbh.out.1.bits;obtain⟨ex,hex⟩: ∃ex,ex=qak sb:=⟨_,rfl⟩
    have hexl:ex.length≤5000:=by
     have h1:=congrArg List.length htl.out;rw[qia] at h1;simp only[List.length_append,List.length_cons] at h1;rw[hex];omega
    have cE:Hid (∀W,Below wr.heap.size wr W→Calls Tryz.prog 25 #[.int .u64 (sb:Int)] W fun e w'=>e= .returned (.string (BS ex))∧Below W.heap.size W w'):=Lh (fun W hB=>by rw[hex];exact qgd sb hbt W (GG.out _ (B9.out.trans (hB.mono B9.out.size))).b.a.tab);have h25: ∀args W,(callFunc 25 args).run Tryz.prog W= .ok (.enter 25 args) W:=enters_of Tryz.func25 (by kernel_rfl) rfl;replace h25:=Lh h25;have Br:=Lh (Below.refl wr.heap.size wr);replace N9:=Lh N9;go_upto_region 23 with (fail)
    refine qbs wr.heap.size (Nat.le_refl _) (fun j=>([[],[],[1],[2],[],[4],[5],[3,6],[0,7],[8]]:List (List Nat)).getD j []) [9] [] [] (XV [(.string (BS (hd++Qf i)):Value),(.func (.func 22) #[] #[.pointer (some ⟨w.heap.size+1,0,none⟩)]:Value),(.string (BS (wb b 7)):Value),(.string (BS ([125]++wb b 7)):Value),(.pointer (some ⟨D,1,none⟩):Value),(.int .u64 (sb:Int):Value),(.string (BS (ex)):Value),(.string (BS ([125]++wb b 7++ex)):Value),(.string (BS ((hd++Qf i)++([125]++wb b 7++ex))):Value),(.string (BS ((hd++Qf i)++([125]++wb b 7++ex))):Value)])
     (by kernel_rfl) (by kernel_rfl) (by decide+kernel) (by kernel_rfl) (by decide+kernel) (fun j hj=>by rw[List.getD_eq_getElem?_getD,List.getElem?_eq_none (show 10≤j from hj)];rfl) (by decide+kernel) (fun i v w w' h _=>h) (fun i v w w' _ _ h _=>h) ?_ ?_
    ·intro i;rcases i with _|_|_|_|_|_|_|_|_|_|i
     all_goals intro oo hoo a wa3 hba hout hsoft hpre
     all_goals cases hoo
     ·exact qal rfl (qab rfl) (.inl rfl) ⟨_,rfl,Below.refl _ _,(hout 13 (by kernel_rfl)).trans rfl⟩
     ·exact qal rfl (qab rfl) (.inl rfl) ⟨_,rfl,Below.refl _ _,(hout 11 (by kernel_rfl)).trans rfl⟩
     ·have e0:a.tmps.getD 112 undef= .func (.func 22) #[] #[.pointer (some ⟨w.heap.size+1,0,none⟩)]:=hpre 1 (by simp) _ rfl;refine qa9 rfl (qab rfl) (qdO h22.out e0 wa3) ((cw.out 7 (by decide) wa3 (Br.out.trans (hba.mono Br.out.size))).mono ?_);rintro e w' ⟨rfl,hb'⟩;exact⟨_,rfl,_,rfl,hb',rfl⟩
     ·have e0:a.tmps.getD 113 undef= .string (BS (wb b 7)):=hpre 2 (by simp) _ rfl;exact qat rfl (qab rfl) rfl (show a.eval (.const (.string (BS [125])))= .string (BS [125])from rfl) e0 (qaJ _ _ _ _ wa3 (by first|omega|(simp only[List.length_append,List.length_cons,List.length_nil];omega))) ⟨_,rfl,Below.refl _ _,rfl⟩
     ·exact qbG rfl (qab rfl) rfl ((hout 7 (by kernel_rfl)).trans rfl) (qf6 _ 1 (by decide) wa3) ⟨_,rfl,Below.refl _ _,rfl⟩
     ·have e0:a.tmps.getD 115 undef= .pointer (some ⟨D,1,none⟩):=hpre 4 (by simp) _ rfl;have kk:=(hba.cell (p:=⟨D,1,none⟩) hDr).trans c1;exact qaS rfl (qab rfl) rfl e0 (by simp[go_sem,kk]) ⟨_,rfl,Below.refl _ _,rfl⟩
     ·have e0:a.tmps.getD 116 undef= .int .u64 (sb:Int):=hpre 5 (by simp) _ rfl;refine qbw rfl (qab rfl) _ (qna e0) (h25.out _ _) ((cE.out wa3 (Br.out.trans (hba.mono Br.out.size))).mono ?_);rintro e w' ⟨rfl,hb'⟩;exact⟨_,rfl,_,rfl,hb',rfl⟩
     ·have e0:a.tmps.getD 114 undef= .string (BS ([125]++wb b 7)):=hpre 3 (by simp) _ rfl;have e1:a.tmps.getD 117 undef= .string (BS (ex)):=hpre 6 (by simp) _ rfl;exact qat rfl (qab rfl) rfl e0 e1 (qaJ _ _ _ _ wa3 (by first|omega|(simp only[List.length_append,List.length_cons,List.length_nil];omega))) ⟨_,rfl,Below.refl _ _,rfl⟩
     ·have e0:a.tmps.getD 111 undef= .string (BS (hd++Qf i)):=hpre 0 (by simp) _ rfl;have e1:a.tmps.getD 118 undef= .string (BS ([125]++wb b 7++ex)):=hpre 7 (by simp) _ rfl;exact qat rfl (qab rfl) rfl e0 e1 (qaJ _ _ _ _ wa3 (by first|omega|(simp only[List.length_append,List.length_cons,List.length_nil];omega))) ⟨_,rfl,Below.refl _ _,rfl⟩
     ·have e0:a.tmps.getD 119 undef= .string (BS ((hd++Qf i)++([125]++wb b 7++ex))):=hpre 8 (by simp) _ rfl;exact qal rfl (qab rfl) (.inr rfl) ⟨_,rfl,Below.refl _ _,e0⟩
    ·intro a wa3 hba hF9 ha;have f9:a.tmps.getD 13 undef= .string (BS ((hd++Qf i)++([125]++wb b 7++ex))):=hF9 9 (by simp) _ rfl;clear hF9;simp only[List.foldl,qap] at ha;rw[f9] at ha;clear f9;generalize a.tmps.getD 111 undef=z111 at ha;generalize a.tmps.getD 112 undef=z112 at ha;generalize a.tmps.getD 113 undef=z113 at ha;generalize a.tmps.getD 114 undef=z114 at ha;generalize a.tmps.getD 115 undef=z115 at ha;generalize a.tmps.getD 116 undef=z116 at ha;generalize a.tmps.getD 117 undef=z117 at ha;generalize a.tmps.getD 118 undef=z118 at ha;generalize a.tmps.getD 119 undef=z119 at ha;subst ha;simp only[Act.put,List.setIfInBounds_toArray,List.set_cons_succ,List.set_cons_zero];have B10:=Lh (B9.out.trans (hba.mono B9.out.size));have N10:=N9.out.on hba;have c2':=N10.c2;have HE4:=Lh (HE3.out.on hba);have hLR3:=Lh ((hLR.out.on BJ.out).on hba);obtain⟨U,hU⟩: ∃U,Hid ((hd++Qf i)++([125]++wb b 7++ex)=U):=⟨_,Lh rfl⟩;have hUl:U.length≤1000200000:=by rw[←hU.out];simp only[List.length_append,List.length_cons,List.length_nil];omega
     rw[hU.out];replace N10:=Lh N10;clear cw cE h25 Br c1 hba;go_upto_if 121 with (fail)
     go_cut [13] from 18 (fun s13 wx=>s13= .string (BS (U++(if sst then 32::(wb b 1++Lib.itoa stt) else [])))∧Hid (Below wa3.heap.size wa3 wx))
     case first=>
      cases sst with
      |false=>
       go_wp2_with fail;go_meet
       case rel=>exact⟨by simp,Lh (Below.refl _ _)⟩
      |true=>
       have cw1:=Lh (qim (w.heap.size+1) b hb 1 (by decide) wa3 HE4.out);have hti:=hsbh.out.2;obtain⟨k,k1,k2,k3⟩:=qj3 ⟨ls,sb,true,stt⟩ rfl hti.1 hti.2;rw[htl.out] at k1 k2 k3;simp only at k3;have hil:=L.itoa_len stt hti.1 hti.2;obtain⟨it,hit⟩: ∃it,it=Lib.itoa stt:=⟨_,rfl⟩;rw[←hit] at k3 hil;have cL:Hid (∀W,Calls Tryz.prog 26 #[.string (BS tl),.string ⟨#[32]⟩] W fun e w'=>e= .returned (.int .i64 (k:Int))∧W=w'):=Lh (fun W=>(Tryz.strings_LastIndex_one (BS tl) ⟨#[32]⟩ rfl (by rw[qac];omega) W).mono (fun e w' ⟨h1,h2⟩=>⟨h1.trans (by rw[←k1];rfl),h2.symm⟩));have zt:=qac tl;have exf:(BS tl).extract (k+1) tl.length=BS it:=by rw[qeS tl (k+1) tl.length rfl,k3]
       obtain⟨S1,hS1⟩: ∃S,Hid (32::wb b 1=S):=⟨_,Lh rfl⟩;obtain⟨S2,hS2⟩: ∃S,Hid (S1++it=S):=⟨_,Lh rfl⟩;obtain⟨S3,hS3⟩: ∃S,Hid (U++S2=S):=⟨_,Lh rfl⟩;have l1:S1.length≤4:=by rw[←hS1.out,List.length_cons];omega
       have l2:S2.length≤100:=by rw[←hS2.out,List.length_append];omega
       have z1:=qac U;have z2:=qac (wb b 1);have z3:=qac it;have z4:=qac S1;have z5:=qac S2;have cat1:(⟨#[32]⟩:ByteArray)++BS (wb b 1)=BS S1:=by rw[←hS1.out];exact qaM [32] _
       have cat2:BS S1++BS it=BS S2:=by rw[←hS2.out];exact qaM _ _
       have cat3:BS U++BS S2=BS S3:=by rw[←hS3.out];exact qaM _ _
       have ki:((k:Int)+1).toNat=k+1:=by omega
       have kj:(k:Int)+1≤(tl.length:Int):=by omega
       have hrel:Hid (S3=U++(if true=true then 32::(wb b 1++Lib.itoa stt) else [])):=Lh (by rw[←hS3.out,←hS2.out,←hS1.out,hit];rfl);clear k1 k3 hit;go_wp2_with fail;refine cw1.out.mono ?_;rintro e w14 ⟨rfl,b14⟩;replace b14:=Lh b14;go_wp2_with fail;refine(cL.out _).mono ?_;rintro e w15 ⟨rfl,rfl⟩;go_wp2_with fail;go_meet
       case rel=>exact⟨by rw[hrel.out],b14⟩
     case rest=>
      obtain⟨rfl,BC⟩:=hcut;have hok:=hmdh.out.ok;have BD:=Lh (B10.out.trans (BC.out.mono B10.out.size));have N11:=N10.out.on BC.out;have hLR4:=Lh (hLR3.out.on BC.out);have cw2:=Lh (qim (w.heap.size+1) b hb 2 (by decide) wc (HE4.out.on BC.out));obtain⟨V,hV⟩: ∃V,Hid (U++(if sst then 32::(wb b 1++Lib.itoa stt) else [])=V):=⟨_,Lh rfl⟩
      have hVl:V.length≤1000300000:=by
       have hil:=L.itoa_len stt hsbh.out.2.1 hsbh.out.2.2;rw[←hV.out,List.length_append]
       cases sst with
       |false=>simp;omega
       |true=>simp only[if_true,List.length_cons,List.length_append];omega
      rw[hV.out];obtain⟨TX,hTX⟩: ∃TX,Hid (V++wb b 2=TX):=⟨_,Lh rfl⟩
      have hperm:(qcw dl turn).Perm ((⟨ls,sb,sst,stt⟩:Smp).ls.filter (fun x=>!(x.1==qag))):=by
       have h:=qkm dl turn;rw[←hdl.out] at h⊢;exact h
      have hQn:Qf i=blL (wb b 3) (wb b 4) (wb b 5) (wb b 6) cm (qcw dl turn):=by
       rw[hQ.out,hf.out,hndh.out];exact qnf _ _ _ _ _ _ _
      have hTS:TX=blS (wb b) cm (qcw dl turn) ⟨ls,sb,sst,stt⟩:=by
       rw[←hTX.out,←hV.out,←hU.out,←hhd.out,hQn,hex,←hgn.out];unfold blS;simp
      have hbl: ∀j,Blk (wb b j):=fun j=>(qcs (qcm b j)).1
      have hTl:TX.length≤65536:=by
       rw[hTS];exact qot (wb b) (fun j=>(qcs (qcm b j)).2) cm _ _ hok.l (by have:=hQl.out i;rw[hQn] at this;omega)
      have hrd:qay TX=(0,⟨ls,sb,sst,stt⟩):=by
       rw[hTS];exact qhd (wb b) hbl cm _ _ hok.b hok.t0 hok.t1 hok.r hperm (by rw[←hTS];exact hTl)
      have hpc:qqm (qdH TX):=by
       rw[hTS,qmc (wb b) hbl cm _ _ hok.b hok.r hperm];exact qiR _ hok.b (qaZ hok.r).2.2.1
      have cR:=fun W (hB:Below w.heap.size w W)=>qcU TX (by omega) (fun _=>hpc) W (GG.out _ hB)
      unfold qmt at cR;simp only[hrd] at cR;replace cR:=Lh cR;have z1:=qac V;have z2:=qac (wb b 2);have cat1:BS V++BS (wb b 2)=BS TX:=by rw[←hTX.out];exact qaM _ _
      replace N11:=Lh N11;have hq:=hsbh.out.1.n;simp only at hq;clear hV hTX hTS hTl hrd hpc hbl hQn hperm hok BC hU hhd N10 HE4;go_wp2_with fail;refine cw2.out.mono ?_;rintro e w16 ⟨rfl,b16⟩;have B16:=Lh (BD.out.trans (b16.mono BD.out.size));replace N11:=Lh (N11.out.on b16);replace hLR4:=Lh (hLR4.out.on b16);clear b16 cw2;go_wp2_with fail;refine(cR.out _ B16.out).mono ?_;rintro e w17 ⟨v17,rfl,⟨lv17,rfl,own17⟩,b17⟩;obtain⟨a17,c17,rfl⟩:=qae own17;simp only at own17;have B17:=Lh (B16.out.trans (b17.mono B16.out.size));have By:=(Below.refl w17.heap.size w17).alloc (Nat.le_refl _) (.cells #[.slice a17 ls.length c17,.int .u64 (sb:Int),.bool sst,.int .i64 stt] 34);have NP:SB w17.heap.size (.slice a17 ls.length c17) (sb:Int) sst stt (w17.alloc (.cells #[.slice a17 ls.length c17,.int .u64 (sb:Int),.bool sst,.int .i64 stt] 34)):=World.alloc_heap_new w17 _;have N12:=(N11.out.on b17).on By;have hLb:=qaN.of_owned (qah own17 By);have hLa:=(hLR4.out.on b17).on By;have B18:=Lh (B17.out.trans (By.mono B17.out.size));obtain⟨nl2,hnl2⟩: ∃n,n=ls.length:=⟨_,rfl⟩;have enl:nl=nl2:=by rw[hnlh.out,hnl2]
      subst enl;have cs:=qjL (.agg #[.slice a17 nl c17,.int .u64 (sb:Int),.bool sst,.int .i64 stt]) (.agg #[.slice a2 nl c2,.int .u64 (sb:Int),.bool sst,.int .i64 stt]) ⟨ls,sb,sst,stt⟩ ⟨ls,sb,sst,stt⟩ (by show ls.length≤_;omega) (by show ls.length≤_;omega) (w17.alloc (.cells #[.slice a17 nl c17,.int .u64 (sb:Int),.bool sst,.int .i64 stt] 34)) ⟨_,rfl,by rw[hnl2];exact hLb⟩ ⟨_,rfl,by rw[hnl2] at hLa⊢;exact hLa⟩;rw[(qe5 _ _).2 rfl] at cs;have p0:=NP.c0;have p1:=NP.c1;have p2:=NP.c2;have p3:=NP.c3;have d0:=N12.c0;have d1:=N12.c1;have d2:=N12.c2;have d3:=N12.c3;rw[←hnl2] at p0 p1 p2 p3 d0 d1 d2 d3 B18;simp only[];rw[←hnl2];replace cs:=Lh cs;clear own17 b17 By NP N12 hLb hLa hnl2 N11 B17 hLR4 cR;go_wp2_with fail;refine cs.out.mono ?_;rintro e w19 ⟨rfl,b19⟩;have B19:=B18.out.trans (b19.mono B18.out.size);go_wp2_with fail;go_ret;exact⟨rfl,B19⟩
end Go.Proofs.YtdeimnnpcfncpaaGreatDoor.X
end
section
namespace Go.Proofs.YtdeimnnpcfncpaaGreatDoor
open Go Go.RowKit
theorem expoBlanks_walk (s0:X.Sm) (lv0:Value) (z1:List Int) (a2:Int) (w:World) (ok0:X.SmOk s0) (sv0:X.SmV w lv0 s0) (l1:z1.length=8) (w1: ∀i (hi:i<z1.length),(Lit.int .u8 z1[i]).wf=true) (w2:(Lit.int .u8 a2).wf=true) (hG:X.EGlb w):
 Calls Tryz.prog 4 #[.agg #[.int .u8 (s0.nm:Int),lv0,.int .u64 (s0.bits:Int),.int .i64 s0.tm,.bool s0.td],.agg (z1.map (Value.int .u8)).toArray,.int .u8 a2] w fun e w'=>e= .returned (.bool true)∧Below w.heap.size w w':=by
 obtain⟨t,rfl,ht⟩:=qqh w2
 have key: ∀i,i<8→ ∃n:Nat,z1[i]?=some (n:Int)∧n<256:=fun i hi=>by
  obtain⟨n,h1,h2⟩:=qqh (w1 i (by omega));exact⟨n,by rw[List.getElem?_eq_getElem (by omega),h1],h2⟩
 let b:Nat→Nat:=fun i=>((z1[i]?).getD 0).toNat
 have hb: ∀i,b i<256:=fun i=>by
  by_cases hi:i<8
  ·obtain⟨n,h1,h2⟩:=key i hi;show((z1[i]?).getD 0).toNat<256;rw[h1];show((n:Int)).toNat<256;omega
  ·show((z1[i]?).getD 0).toNat<256;rw[List.getElem?_eq_none (by omega)]
   decide
 have hz:z1=[(b 0:Int),(b 1:Int),(b 2:Int),(b 3:Int),(b 4:Int),(b 5:Int),(b 6:Int),(b 7:Int)]:=by
  apply List.ext_getElem
  ·rw[l1];rfl
  ·intro i h1 h2;have hi:i<8:=by omega
   obtain⟨n,e1,_⟩:=key i hi
   have hbi:(b i:Int)=z1[i]:=by
    show((((z1[i]?).getD 0).toNat:Nat):Int)=_;rw[List.getElem?_eq_getElem h1] at e1⊢;have e2:=Option.some.inj e1;show(((z1[i]).toNat:Nat):Int)=_;rw[e2];omega
   rw[←hbi];rcases(show i=0∨i=1∨i=2∨i=3∨i=4∨i=5∨i=6∨i=7 by omega)with rfl|rfl|rfl|rfl|rfl|rfl|rfl|rfl<;>rfl
 rw[hz];exact X.expoBlanks_any s0 lv0 b t hb ht w ok0 sv0 hG
end Go.Proofs.YtdeimnnpcfncpaaGreatDoor
end
