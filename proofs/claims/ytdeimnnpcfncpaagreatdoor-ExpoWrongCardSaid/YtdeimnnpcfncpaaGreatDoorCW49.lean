/- Parts of the proof: WB WA WD. -/
import Derived.Test.YtdeimnnpcfncpaaGreatDoorCW47
import Derived.Test.YtdeimnnpcfncpaaGreatDoorCW48
set_option linter.unusedVariables false
set_option linter.unusedSimpArgs false
set_option maxRecDepth 100000
set_option maxHeartbeats 64000000
section
namespace Go.Proofs.YtdeimnnpcfncpaaGreatDoor.X
open Go Go.RowKit
theorem qfg (ps:List SV): ∀(i:Nat),i<ps.length→(qam ps)[i*4]?=(ps[i]?).map (fun p=>p.2)∧(qam ps)[i*4+1]?=(ps[i]?).map (fun p=>Value.int .u64 (p.1.bits:Int))∧(qam ps)[i*4+2]?=(ps[i]?).map (fun p=>Value.bool p.1.st)∧(qam ps)[i*4+3]?=(ps[i]?).map (fun p=>Value.int .i64 p.1.t):=by
 induction ps with
 |nil=>intro i hi;simp at hi
 |cons p t ih=>
  intro i hi
  cases i with
  |zero=>exact⟨rfl,rfl,rfl,rfl⟩
  |succ i=>
   have:=ih i (by simpa using hi);rw[show(i+1)*4=i*4+4 by omega];exact this
theorem qbA (ps:List SV):(qam ps).length=ps.length*4:=by
 induction ps with
 |nil=>rfl
 |cons p t ih=>rw[show qam (p::t)=qgn p++qam t from rfl,List.length_append,ih,List.length_cons];simp[qgn];omega
theorem qgH (ps:List SV) (k:Nat) (h:k≤ps.length):(qam ps).take (k*4)=qam (ps.take k):=by
 conv=>lhs;rw[←List.take_append_drop k ps,qbh]
 rw[List.take_append_of_le_length (by rw[qbA,List.length_take];omega),List.take_of_length_le (by rw[qbA,List.length_take];omega)]
theorem qgV (ps:List SV) (k:Nat) (h:k≤ps.length):(qam ps).drop (k*4)=qam (ps.drop k):=by
 conv=>lhs;rw[←List.take_append_drop k ps,qbh]
 have:(qam (ps.take k)).length=k*4:=by rw[qbA,List.length_take,Nat.min_eq_left h]
 rw[←this,List.drop_left]
theorem qeh (W:World) (ps:List SV) (h: ∀p∈ps,qaC W p.2 p.1.ls): ∀c∈qam ps,c.oneCell'=true:=by
 intro c hc;unfold qam at hc;obtain⟨p,hp,hc⟩:=List.mem_flatMap.1 hc;obtain⟨a,cc,e⟩:=(h p hp).shape;unfold qgn at hc;rw[e] at hc;simp only[List.mem_cons,List.not_mem_nil,or_false] at hc;rcases hc with rfl|rfl|rfl|rfl<;>rfl
theorem qmS {base:Nat} {W:World} {v:Value} {ps:List SV} (h2:W.ownsRow base 34 4 v ps.length (qam ps)) (h3: ∀p∈ps,qaC W p.2 p.1.ls):qbm W v (ps.map Prod.fst):=by
 rcases h2.2 with ⟨h4,h5⟩|⟨g,cap,cur,h4,h5,h6,h7,h8,h9,h10⟩
 ·have:ps=[]:=List.eq_nil_of_length_eq_zero h5;subst this;exact .inl ⟨none,0,fun _=>rfl,h4,rfl⟩
 ·refine .inr ⟨g,0,cap,by rw[h4,List.length_map],(Array.getElem?_eq_some_iff.1 h6).1,by rw[List.length_map];exact h7,h8,fun i hi=>?_⟩;rw[List.length_map] at hi
  have hc: ∀j,j<ps.length*4→W.cell? ⟨g,j,none⟩=(qam ps)[j]?:=fun j hj=>by
   rw[Lib.cell_of_heap h6,←h10,List.getElem?_take_of_lt hj];simp
  obtain⟨k0,k1,k2,k3⟩:=qfg ps i hi
  have e:(ps.map Prod.fst).getD i qaL=(ps[i]).1:=by
   rw[List.getD_eq_getElem?_getD,List.getElem?_map,List.getElem?_eq_getElem hi];rfl
  rw[List.getElem?_eq_getElem hi] at k0 k1 k2 k3;refine⟨(ps[i]).2,⟨?_,?_,?_,?_⟩,?_⟩
  ·rw[Nat.zero_add,hc _ (by omega)];exact k0
  ·rw[Nat.zero_add,hc _ (by omega),e];exact k1
  ·rw[Nat.zero_add,hc _ (by omega),e];exact k2
  ·rw[Nat.zero_add,hc _ (by omega),e];exact k3
  ·rw[e];exact h3 _ (List.getElem_mem _)
abbrev qko:=Go.Proofs.YtdeimnnpcfncpaaGreatDoor.RowK
theorem qmZ {W:World} {a:Option Addr} {n c:Nat} {ss:List Smp} (h:qbm W (.slice a n c) ss): ∃ps:List SV,ps.map Prod.fst=ss∧qko 4 W (.slice a n c) n (qam ps)∧(∀p∈ps,qaC W p.2 p.1.ls)∧n=ps.length∧n≤c:=by
 rcases h with ⟨a',c',h0,h1,h2⟩|⟨b,off,cap,h1,h2,h3,h4,h5⟩
 ·cases h1;subst h2;exact⟨[],rfl,⟨rfl,.inl ⟨a,c,h0,rfl,rfl⟩⟩,(fun p hp=>by cases hp),rfl,Nat.zero_le _⟩
 ·cases h1;obtain⟨lvs,l1,l2⟩:=qci ss.length _ h5;have hz:(ss.zip lvs).map Prod.fst=ss:=List.map_fst_zip (by omega);have hzl:(ss.zip lvs).length=ss.length:=by rw[List.length_zip,l1,Nat.min_self]
  refine⟨ss.zip lvs,hz,⟨by rw[qbA,hzl],.inr ⟨b,off,c,rfl,h2,h3,h4,fun j u hj=>?_⟩⟩,fun p hp=>?_,hzl.symm,h3⟩
  ·have hjl:j<ss.length*4:=by
    have:=(List.getElem?_eq_some_iff.1 hj).1;rwa[qbA,hzl] at this
   have hi:j/4<ss.length:=by omega
   have hil:j/4<lvs.length:=by omega
   obtain⟨⟨d0,d1,d2,d3⟩,_⟩:=l2 (j/4) hil;obtain⟨k0,k1,k2,k3⟩:=qfg (ss.zip lvs) (j/4) (by omega);have e:(ss.zip lvs)[j/4]?=some (ss[j/4],lvs[j/4]):=by rw[List.getElem?_eq_getElem (by omega),List.getElem_zip]
   have eg:ss.getD (j/4) qaL=ss[j/4]:=by rw[List.getD_eq_getElem?_getD,List.getElem?_eq_getElem hi];rfl
   rw[e] at k0 k1 k2 k3;rw[eg] at d1 d2 d3;rcases(show j=j/4*4∨j=j/4*4+1∨j=j/4*4+2∨j=j/4*4+3 by omega)with q|q|q|q
   ·rw[q] at hj⊢;rw[k0] at hj;cases hj;exact d0
   ·rw[q] at hj⊢;rw[k1] at hj;cases hj;rw[←Nat.add_assoc];exact d1
   ·rw[q] at hj⊢;rw[k2] at hj;cases hj;rw[←Nat.add_assoc];exact d2
   ·rw[q] at hj⊢;rw[k3] at hj;cases hj;rw[←Nat.add_assoc];exact d3
  ·obtain⟨i,hi,rfl⟩:=List.mem_iff_getElem.1 hp;rw[hzl] at hi;have:=(l2 i (by omega)).2;rw[List.getElem_zip];rw[List.getD_eq_getElem?_getD,List.getElem?_eq_getElem hi] at this;exact this
theorem qmO (a:Option Addr) (n c k:Nat) (h:k≤c) (w:World):(Instr.sliceAt 28 (.slice a n c) none (some (.int .i64 k)) none).run Tryz.prog w= .ok (.slice a k c) w:=by
 go_simp
theorem qma (a:Option Addr) (n c k:Nat) (h:k≤n) (_hc:n≤c) (w:World):(Instr.sliceAt 28 (.slice a n c) (some (.int .i64 k)) none none).run Tryz.prog w= .ok (.slice (if c=k then a else a.map (·.add (k*4))) (n - k) (c - k)) w:=by
 go_simp
theorem qoZ (w:World):(Instr.buildSlice 28 0 #[]).run Tryz.prog w= .ok (.slice (some ⟨w.heap.size,0,none⟩) 0 0) (w.alloc (.cells #[] 34)):=by
 go_simp
theorem qoG (w:World) (l0 l1:Value) (b0 b1 t0 t1:Int) (s0 s1:Bool):(Instr.buildSlice 28 2 #[(0,.agg #[l0,.int .u64 b0,.bool s0,.int .i64 t0]),(1,.agg #[l1,.int .u64 b1,.bool s1,.int .i64 t1])]).run Tryz.prog w= .ok (.slice (some ⟨w.heap.size,0,none⟩) 2 2) (w.alloc (.cells #[l0,.int .u64 b0,.bool s0,.int .i64 t0,l1,.int .u64 b1,.bool s1,.int .i64 t1] 34)):=by
 go_simp
theorem ql3 (W:World) (C:Array Value) (k n:Nat) (hC:C.size=n*k) (hn:n≤maxLen):qko k (W.alloc (.cells C 34)) (.slice (some ⟨W.heap.size,0,none⟩) n n) n C.toList:=by
 refine⟨by simpa using hC,.inr ⟨W.heap.size,0,n,rfl,by simp,Nat.le_refl _,hn,fun j u hj=>?_⟩⟩;rw[Lib.cell_of_heap (World.alloc_heap_new _ _),Nat.zero_add];simpa using hj
def XW (B k n:Nat) (vl v3 v10 bv:Value) (p1 p2 pb:List Value) (i:Nat) (v:Value) (w:World):Prop:=
 match i with
 |0=> ∃b,v= .slice (some ⟨b,0,none⟩) 0 0∧w.ownsRow B 34 4 v 0 []
 |1=>v=vl|2=>v= .int .i64 k|3=>v=v3
 |4=>w.ownsRow B 34 4 v k p1
 |5=>v=bv
 |6=>v= .agg #[.slice none 0 0,.int .u64 0,.bool false,.int .i64 0]
 |7=>qko 4 w v 2 pb
 |8=>w.ownsRow B 34 4 v (k+2) (p1++pb)
 |9=>v=vl|10=>v= .int .i64 k|11=>v=v10
 |12=>w.ownsRow B 34 4 v (k+2+(n - k)) (p1++pb++p2)
 |13=>v= .tuple #[.string ⟨#[]⟩,.int .i64 k,.int .i64 239]
 |14=>v= .tuple #[.string ⟨#[]⟩,.int .i64 k,.int .i64 239]
 |15=>v= .string ⟨#[]⟩|16=>v= .int .i64 k|17=>v= .int .i64 239
 |18=>v= .string ⟨#[]⟩|19=>v= .int .i64 k|20=>v= .int .i64 239
 |_=>True
section
variable {P:Program} {ops:Array Oper} {Q:Exit→Act→World→Prop} {a:Act} {w:World} {K:Act→World→Prop} {i:Nat} {o:Oper}
theorem qgI {t:TypeId} {x y:Operand} {v u:Value} {w':World} {r:Value} (ho:ops[i]?=some o) (hm:Met ops a o) (hop:o.op= .buildSlice t 2 #[(0,x),(1,y)]) (hx:a.eval x=v) (hy:a.eval y=u)
 (hr:(Instr.buildSlice t 2 #[(0,v),(1,u)]).run P w= .ok r w') (hk:K (a.put o.dst r) w'):wpOp P ops Q i K a w:=by
 refine qan ho hm (v:=r) (w':=w') ?_ hk;simp[execOp,hop,hx,hy,hr,Result.andThen]
end
theorem qp7 (w:World) (o:Oper) (h:o.op= .build 34 #[]) (ρ:Operand→Value):(execOp ρ o).run Tryz.prog w= .ok (.value (.agg #[.slice none 0 0,.int .u64 0,.bool false,.int .i64 0])) w:=by
 obtain⟨dst,op,ty,pos,after,guard⟩:=o;simp only at h;subst h;go_simp
theorem qhU (bad:Smp) (hb:qaI bad=false) (a r:List Smp) (h: ∀s∈a,SOk s):qcV (a++bad::r)=(239,(a.length:Int),[]):=by
 have hl:qbK bad=(239,[]):=by unfold qbK;rw[hb];rfl
 have:=qfU bad (by rw[hl];decide) r a 0 [] h;rw[hl,Nat.zero_add] at this;unfold qcV;simp only[this];rfl
def WrI (w2:World) (D:Nat) (wx:World):Prop:= ∃lv s,SB D lv (s.bits:Int) s.st s.t wx∧qaC wx lv s.ls∧SBt s∧qaI s=false∧Below w2.heap.size w2 wx
theorem qdk {W:World} {D base n:Nat} {lv v:Value} {b t:Int} {st:Bool} {xs:List Value} (h:SB D lv b st t W) (ho:W.ownsRow base 44 2 v n xs) (i:Nat) (u:Value):(W.setCell ⟨D,i,none⟩ u).ownsRow base 44 2 v n xs:=by
 obtain⟨h1,h2|⟨g,cap,cur,q1,q2,q3,q4⟩⟩:=ho
 ·exact⟨h1,.inl h2⟩
 ·have hg:g≠D:=by
   rintro rfl;unfold SB at h;rw[q3] at h;simp at h
  exact⟨h1,.inr ⟨g,cap,cur,q1,q2,((qai W D i u).block g (Array.getElem?_eq_some_iff.1 q3).1 hg).trans q3,q4⟩⟩
theorem qgJ {w2 W:World} {D base:Nat} {lv v:Value} {r:List Lb} {bits:Nat} {st:Bool} {t:Int} (h:SB D lv (bits:Int) st t W) (ho:W.ownsRow base 44 2 v r.length (qaa r)) (hD:w2.heap.size≤D) (hB:Below w2.heap.size w2 W) (hs:SBt ⟨r,bits,st,t⟩) (hr:qaI ⟨r,bits,st,t⟩=false):WrI w2 D (W.setCell ⟨D,0,none⟩ v):=
 ⟨v,_,h.set0 v,qaC.of_owned (qdk h ho 0 v),hs,hr,hB.setCell (p:=⟨D,0,none⟩) hD _⟩
theorem WrI.on {w2 W W':World} {D:Nat} (h:WrI w2 D W) (hb:Below W.heap.size W W'):WrI w2 D W':=by
 obtain⟨lv,s,h1,h2,h3,h4,h5⟩:=h;exact⟨lv,s,h1.on hb,h2.on hb,h3,h4,h5.trans (hb.mono h5.size)⟩
theorem qsR (W:World) (n:List UInt8):qcC (W.alloc (.cells #[.string (BS n)] 9)) W.heap.size [n]:=by
 refine⟨by simp,fun i hi=>?_⟩;obtain rfl:i=0:=by simpa using hi
 rw[Lib.cell_of_heap (World.alloc_heap_new _ _)];rfl
theorem qnn {W:World} {B:Nat} {v0 v1 v2 v3 v4:Value} (h:W.heap[B]?=some (.cells #[v0,v1,v2,v3,v4] 26)):W.cell? ⟨B,0,none⟩=some v0∧W.cell? ⟨B,1,none⟩=some v1∧W.cell? ⟨B,2,none⟩=some v2∧W.cell? ⟨B,3,none⟩=some v3∧W.cell? ⟨B,4,none⟩=some v4:=by
 refine⟨?_,?_,?_,?_,?_⟩
 all_goals rw[Lib.cell_of_heap h];rfl
theorem expoWrong_any (a:Option Addr) (c:Nat) (xs:List Sm) (x:Sm) (lv:Value) (way at':Nat) (hwy:way<256) (hat:at'<256) (w:World) (hr:SmRow w (.slice a xs.length c) xs) (hlc:xs.length≤c) (hlm:xs.length≤maxLen) (hx:SmOk x) (hlv:SmV w lv x) (hG:EGlb w):
 Calls Tryz.prog 3 #[.slice a xs.length c,.agg #[.int .u8 (x.nm:Int),lv,.int .u64 (x.bits:Int),.int .i64 x.tm,.bool x.td],.int .u8 (way:Int),.int .u8 (at':Int)] w fun e w'=>e= .returned (.bool true)∧Below w.heap.size w w':=by
 obtain⟨la,lc,rfl,hlv2⟩: ∃la lc,lv= .slice la x.qs.length lc∧SmV w lv x:=by
  obtain⟨a,c,h1,h2⟩:=hlv;exact⟨a,c,h1,a,c,h1,h2⟩
 have GG:=Lh (fun W (hb:Below w.heap.size w W)=>hG.on hb);have hA:=Lh (fun W (hb:Below w.heap.size w W)=>qks W (hG.on hb));have hall:=Lh (fun W (hb:Below w.heap.size w W)=>qrx a c xs W (hr.on hb) hlc hlm);have hmk:=Lh (fun W (hb:Below w.heap.size w W)=>qkP x hx _ W (hlv2.on hb));have Bw:=Lh ((Below.refl w.heap.size w).alloc (Nat.le_refl _) (.cells #[.int .u8 (x.nm:Int),.slice la x.qs.length lc,.int .u64 (x.bits:Int),.int .i64 x.tm,.bool x.td] 26));obtain⟨n,hn⟩: ∃n,n=xs.length:=⟨_,rfl⟩;rw[←hn] at hall hlc hlm⊢;have htm:=Lh (show -9223372036854775808≤x.tm∧x.tm≤9223372036854775807 from⟨hx.h3,hx.h4⟩);have NX:=Lh (World.alloc_heap_new w (.cells #[.int .u8 (x.nm:Int),.slice la x.qs.length lc,.int .u64 (x.bits:Int),.int .i64 x.tm,.bool x.td] 26));obtain⟨nm,bits,tm,td,qs⟩:=x;simp only at hmk Bw htm NX⊢;obtain⟨ql,hql⟩: ∃q,q=qs.length:=⟨_,rfl⟩;rw[←hql] at hmk Bw NX⊢;clear hr hn hG hx hlv hlv2 hql;go_enter Tryz.func3,Tryz.ntmps3;go_wp2_with fail;refine(hA.out _ Bw.out).mono ?_;rintro e w1 ⟨rfl,Bx⟩;have B1:=Lh (Bw.out.trans (Bx.mono Bw.out.size));replace NX:=Lh ((Bx.block w.heap.size (Array.getElem?_eq_some_iff.1 NX.out).1).trans NX.out);clear hA Bx;go_wp2_with fail;refine(hall.out _ B1.out).mono ?_;rintro e w2 ⟨Bx,v,ss,rfl,hrow,hmd,hlen⟩;have B2:=Lh (B1.out.trans (Bx.mono B1.out.size));have hSL:=Lh (qbm.of_own hrow);replace NX:=Lh ((Bx.block w.heap.size (Array.getElem?_eq_some_iff.1 NX.out).1).trans NX.out);have hok:Hid (∀s∈ss,SOk s):=Lh (fun s hs=>(hmd s hs).ok);have hbt:Hid (∀s∈ss,SBt s):=Lh (fun s hs=>SOk.sbt (hmd s hs));obtain⟨av,cv,rfl⟩:=hSL.out.shape;obtain⟨x0,x1,x2,x3,x4⟩:=qnn NX.out;clear Bx hall B1 hrow hmd;go_upto_region 4 with (fail)
 go_wp2_with fail;refine(hmk.out _ B2.out).mono ?_;rintro e w3 ⟨Bx,v,s,rfl,hmd,sv,rfl,hown⟩;obtain⟨a2,c2,rfl⟩:=qad hown;have By:Below w3.heap.size w3 (w3.alloc (.cells #[.slice a2 s.ls.length c2,.int .u64 (s.bits:Int),.bool s.st,.int .i64 s.t] 34)):=(Below.refl _ _).alloc (Nat.le_refl _) _;have N7:SB w3.heap.size (.slice a2 s.ls.length c2) (s.bits:Int) s.st s.t (w3.alloc (.cells #[.slice a2 s.ls.length c2,.int .u64 (s.bits:Int),.bool s.st,.int .i64 s.t] 34)):=World.alloc_heap_new w3 _;have B3:=Lh (Bx.trans (By.mono Bx.size));have NX3:=(B3.out.block w.heap.size (Array.getElem?_eq_some_iff.1 NX.out).1).trans NX.out;have hown2:=Lh (qaf hown By);have hmdh:=Lh hmd;have c0:=N7.c0;have c1:=N7.c1;have c2':=N7.c2;have c3:=N7.c3;have y3:=(qnn NX3).2.2.2.1;have hsz:=B2.out.size;have hD:w2.heap.size≤w3.heap.size:=Bx.size;clear Bx By hmk hown hmd x0 x1 x2 x3 x4 NX NX3;go_upto_block 0 with (fail)
 have hrl:=(qbT hmdh.out.ok.r).1;have hsb:=SOk.sbt hmdh.out;have cdr:=fun W hb=>qpC (.slice a2 s.ls.length c2) s.ls qag hrl hsb.1.b W.heap.size 1 (W.alloc (.cells #[.string (BS qag)] 9)) (qsR W qag) hb
 replace cdr:=Lh cdr;replace hrl:=Lh hrl;replace hsb:=Lh hsb;obtain⟨ls,sb,sst,stt⟩:=s;simp only at N7 B3 c0 c1 c2' c3 y3 cdr hown2;simp only[];generalize w3.alloc (.cells #[.slice a2 ls.length c2,.int .u64 (sb:Int),.bool sst,.int .i64 stt] 34)=w4 at*;have hD4:=N7.lt;generalize w3.heap.size=D at*;have hLR:=Lh (qaC.of_owned hown2.out);have z0:=N7.fz 0;have z1:=N7.fz 1;have z2:=N7.fz 2;have z3:=N7.fz 3;replace N7:=Lh N7;obtain⟨T,hT⟩: ∃T,max tm 1=T:=⟨_,rfl⟩;have hT1:1≤T∧T≤9223372036854775807:=by have:=htm.out;omega
 obtain⟨m,hm⟩: ∃m,Hid (way%5=m):=⟨_,Lh rfl⟩;have em:((way:Int)%5)=(m:Int):=by have:=hm.out;omega
 have m5:m<5:=by have:=hm.out;omega
 rw[em];clear em hm;go_cut [13] from 20 (fun s13 wx=>s13= .int .i64 0∧Hid (WrI w2 D wx))
 case first=>
  rcases(show m=0∨m=1∨m=2∨m=3∨m=4 by omega)with rfl|rfl|rfl|rfl|rfl
  ·have cd:=Lh (cdr.out w4 (hLR.out.on ((Below.refl _ _).alloc (Nat.le_refl _) _)));have Bn:=(Below.refl w4.heap.size w4).alloc (Nat.le_refl _) (.cells #[.string (BS qag)] 9);have hN:D<(w4.alloc (.cells #[.string (BS qag)] 9)).heap.size:=Nat.lt_of_lt_of_le hD4 Bn.size;have Nn:=Lh (N7.out.on Bn);have Bm:=Lh (B3.out.trans (Bn.mono B3.out.size));go_wp2_with fail;refine cd.out.mono ?_;rintro e w5 ⟨v2,rfl,hown3,hb5⟩;have N5:=(Nn.out.on hb5);have B5:=Bm.out.trans (hb5.mono Bm.out.size);have hs5:SBt ⟨qcy ls qag,sb,sst,stt⟩:=⟨⟨Nat.le_trans (List.length_filter_le _ _) hsb.out.1.n,fun x hx=>hsb.out.1.b x (List.mem_filter.1 hx).1,hsb.out.1.bits⟩,hsb.out.2⟩;have W5:=Lh (qgJ N5 hown3 hD B5 hs5 (qh1 ls sb sst stt));have d0:=N5.c0;have f0:=N5.fz 0;obtain⟨a3,c3x,rfl⟩:=qad hown3;clear N5 B5 hs5 hown3 hb5 cd;go_wp2_with fail;go_meet
   case rel=>exact⟨rfl,W5⟩
  ·obtain⟨RP,hRP⟩: ∃RP,RP=List.replicate 129 (120:UInt8):=⟨_,rfl⟩
   have hrep: ∀W,Calls Tryz.prog 18 #[.string ⟨#[120]⟩,.int .i64 129] W fun e w'=>e= .returned (.string (BS RP))∧Below W.heap.size W w':=fun W=>by
    have:=Tryz.strings_Repeat ⟨#[120]⟩ 129 W (by decide) (by decide);rw[show(Lib.repeatL (⟨#[120]⟩:ByteArray).data.toList 129)=RP by rw[hRP];decide+kernel] at this;exact this
   replace hrep:=Lh hrep;obtain⟨m4,hm4⟩: ∃m,Hid (at'%4=m):=⟨_,Lh rfl⟩;have l4:m4<4:=by have:=hm4.out;omega
   have e4:((at':Int)%4)=(m4:Int):=by have:=hm4.out;omega
   have d4:decide (m4<4)=true:=dT l4;have d4':decide ((m4:Int)<4)=true:=dT (by omega);obtain⟨vb,hvb⟩: ∃v,Hid (qqb.getD m4 []=v):=⟨_,Lh rfl⟩;have hvm:Hid (vb∈qqb):=Lh (by rw[←hvb.out];exact qdn (show m4<qqb.length from l4))
   have hset:Hid (∀W ve,Below w4.heap.size w4 W→qaC W ve [(qag,vb)]→Calls Tryz.prog 17 #[.slice a2 ls.length c2,ve] W (qhJ ls [(qag,vb)] W)):=Lh (fun W ve hb hve=>
    qnH _ ve ls [(qag,vb)] hrl.out (fun x hx=>by rw[List.mem_singleton] at hx;subst hx;exact(qdV vb hvm.out).2.2.2) (by have:=hmdh.out.n;simp at this⊢;omega) hsb.out.1.b (fun x hx=>by rw[List.mem_singleton] at hx;subst hx;have:=(qdV vb hvm.out).2.2.1;exact⟨by show qag.length≤_;decide,by show vb.length≤_;omega⟩) W (hLR.out.on hb) hve)
   have cB: ∀W:World,(W.alloc (.cells #[.string ⟨#[57]⟩,.string ⟨#[97,32,98]⟩,.string ⟨#[195,169]⟩,.string (BS RP)] 9)).cell? ⟨W.heap.size,m4,none⟩=some (.string (BS vb)):=fun W=>by
    rw[Lib.cell_of_heap (World.alloc_heap_new _ _),←hvb.out,hRP];rcases(show m4=0∨m4=1∨m4=2∨m4=3 by omega)with rfl|rfl|rfl|rfl<;>rfl
   have e4t:((at':Int).tmod 4)=(m4:Int):=by rw[Int.tmod_eq_emod_of_nonneg (by omega)];exact e4
   have e4u:0≤(at':Int).tmod 4∧(at':Int).tmod 4<4:=by rw[e4t];omega
   have p4:(m4:Int)<4:=by omega
   have p0:(0:Int)≤(m4:Int):=by omega
   have p5: ¬((m4:Int)<0):=by omega
   have p6: ¬(4≤m4):=by omega
   have p7: ¬(4≤(m4:Int)):=by omega
   have sx: ∀wq:World,Below w4.heap.size w4 wq→Below w4.heap.size w4 ((wq.alloc (.cells #[.string ⟨#[57]⟩,.string ⟨#[97,32,98]⟩,.string ⟨#[195,169]⟩,.string (BS RP)] 9)).alloc (.cells #[.string (BS qag),.string (BS vb)] 44)):=fun wq h=>
    have h1:=h.alloc h.size (.cells #[.string ⟨#[57]⟩,.string ⟨#[97,32,98]⟩,.string ⟨#[195,169]⟩,.string (BS RP)] 9)
    h1.alloc h1.size _
   have wsb: ∀r,qqe ls [(qag,vb)] r→SBt ⟨r,sb,sst,stt⟩:=fun r h=>by
    obtain⟨s1,s2,s3⟩:=qez hrl.out (qdV vb hvm.out).2.1 h;replace s3:r.length≤ls.length+1:=s3;have hn:ls.length≤41:=hmdh.out.n;have hv9:=(qdV vb hvm.out).2.2.1;refine⟨⟨by show r.length≤_;omega,fun x hx=>?_,hsb.out.1.bits⟩,hsb.out.2⟩;rcases(s2 x).1 hx with rfl|⟨hx,_⟩
    ·exact⟨by show qag.length≤_;decide,by show vb.length≤_;omega⟩
    ·exact hsb.out.1.b x hx
   have lx: ∀wq:World,qaC ((wq.alloc (.cells #[.string ⟨#[57]⟩,.string ⟨#[97,32,98]⟩,.string ⟨#[195,169]⟩,.string (BS RP)] 9)).alloc (.cells #[.string (BS qag),.string (BS vb)] 44)) (.slice (some ⟨wq.heap.size+1,0,none⟩) 1 1) [(qag,vb)]:=fun wq=>by
    have h:=World.alloc_heap_new (wq.alloc (.cells #[.string ⟨#[57]⟩,.string ⟨#[97,32,98]⟩,.string ⟨#[195,169]⟩,.string (BS RP)] 9)) (.cells #[.string (BS qag),.string (BS vb)] 44);rw[World.size_alloc] at h;refine .inr ⟨wq.heap.size+1,0,1,rfl,(Array.getElem?_eq_some_iff.1 h).1,Nat.le_refl _,by decide,fun i hi=>?_⟩;obtain rfl:i=0:=by simpa using hi
    exact⟨by rw[Lib.cell_of_heap h];rfl,by rw[Lib.cell_of_heap h];rfl⟩
   have cS: ∀wq:World,Below w4.heap.size w4 wq→ ∀ob,((wq.alloc (.cells #[.string ⟨#[57]⟩,.string ⟨#[97,32,98]⟩,.string ⟨#[195,169]⟩,.string (BS RP)] 9)).alloc ob).cell? ⟨D,0,none⟩=some (.slice a2 ls.length c2):=fun wq h ob=>
    have h1:=h.alloc h.size (.cells #[.string ⟨#[57]⟩,.string ⟨#[97,32,98]⟩,.string ⟨#[195,169]⟩,.string (BS RP)] 9)
    ((h1.alloc h1.size ob).cell (p:=⟨D,0,none⟩) hD4).trans c0
   clear hRP;go_upto_region 13 with (fail)
   go_region_with (first
    |(go_at_call 18;refine(hrep.out _).mono ?_;rintro e wq ⟨rfl,hbq⟩;have c0q:=((((Below.refl _ w4).drew).trans hbq).cell (p:=⟨D,0,none⟩) hD4).trans c0;have c0r:=(((((Below.refl _ w4).drew).trans hbq).alloc ((((Below.refl _ w4).drew).trans hbq)).size (.cells #[.string ⟨#[57]⟩,.string ⟨#[97,32,98]⟩,.string ⟨#[195,169]⟩,.string (BS RP)] 9)).cell (p:=⟨D,0,none⟩) hD4).trans c0;have c0s:=cS wq (((Below.refl _ w4).drew).trans hbq))
    |(go_at_call 17;refine(hset.out _ _ (sx wq (((Below.refl _ w4).drew).trans hbq)) (lx wq)).mono ?_;rintro e w8 ⟨v2,r,rfl,hown8,hb8,hsr8⟩;have B8:=(sx wq (((Below.refl _ w4).drew).trans hbq)).trans (hb8.mono (sx wq (((Below.refl _ w4).drew).trans hbq)).size);have N8:=N7.out.on B8;have W8:=Lh (qgJ N8 hown8 hD (B3.out.trans (B8.mono B3.out.size)) (wsb r hsr8) (qjA hrl.out hvm.out hsr8 sb sst stt));have d0:=N8.c0;have f0:=N8.fz 0;obtain⟨a3,c3x,rfl⟩:=qad hown8;clear B8 N8 hown8 hb8 hsr8)
    |fail)
   all_goals go_wp2_with fail
   all_goals go_meet
   all_goals first|exact⟨rfl,W8⟩|exact⟨rfl,Lh (W8.out.on ((Below.refl _ _).drew))⟩
  ·have O2:=hown2.out;have hsz:=B3.out.size;have hn:=hsb.out.1.n;simp only at hn
   have hs6x:SBt ⟨ls++[([97],[])],sb,sst,stt⟩:=⟨⟨by have:=hmdh.out.n;simp at this⊢;omega,fun x hx=>by
    rcases List.mem_append.1 hx with hx|hx
    ·exact hsb.out.1.b x hx
    ·rw[List.mem_singleton] at hx;subst hx;decide,hsb.out.1.bits⟩,hsb.out.2⟩
   go_wp2_with (at_builtin;go_must (refine qdJ rfl (.tmp 74) (.tmp 76) 32 rfl 2 #[.string ⟨#[97]⟩,.string ⟨#[]⟩] rfl (by decide) w2.heap.size (.agg #[.string ⟨#[]⟩,.string ⟨#[]⟩]) 32 (by kernel_rfl) qce rfl _ ls.length (qaa ls) rfl rfl O2 (by intro u hu;simp at hu;rcases hu with rfl|rfl<;>rfl) (by decide) (by omega) hsz ?_);rintro v2 w6 hown3 hb6 hs6 hk6 _;have O6:=Lh hown3;have B6:=Lh (B3.out.trans hb6);have N6:SB D (.slice a2 ls.length c2) (sb:Int) sst stt w6:=(qlo O2 hk6) _ _ N7.out (by simp) (fun c fz e=>by cases e);have W6:=Lh (qgJ (r:=ls++[([97],[])]) N6 (by rw[List.length_append,show qaa (ls++[(([97]:List UInt8),([]:List UInt8))])=qaa ls++[.string (BS [97]),.string (BS [])] by simp[qaa,qaP]];exact hown3) hD B6.out hs6x (qge ls [97] sb sst stt));have d0:=N6.c0;have f0:=N6.fz 0;obtain⟨a3,c3x,rfl⟩:=qad hown3;clear hown3 hb6 hs6 hk6 N6 O6 B6);go_meet
   case rel=>exact⟨rfl,W6⟩
  ·go_upto_region 17 with (fail)
   go_region;go_wp2_with fail;go_meet
   case rel=>exact⟨rfl,Lh (WrI.on ⟨_,⟨ls,sb,false,T⟩,(N7.out.set2 false).set3 T,qaC.of_owned (qdk (N7.out.set2 false) (qdk N7.out hown2.out 2 _) 3 _),⟨⟨hsb.out.1.n,hsb.out.1.b,hsb.out.1.bits⟩,by show -9223372036854775808≤T;omega,by show T≤9223372036854775807;omega⟩,qij _ _ _ (by omega),(B3.out.setCell (p:=⟨D,2,none⟩) hD _).setCell (p:=⟨D,3,none⟩) hD _⟩ ((Below.refl _ _).drew))⟩
  ·go_wp2_with fail;go_meet
   case rel=>exact⟨rfl,Lh ⟨_,⟨ls,9221120237041090562+at',sst,stt⟩,by simpa using N7.out.set1 (9221120237041090562+(at':Int)),qaC.of_owned (qdk N7.out hown2.out 1 _),⟨⟨hsb.out.1.n,hsb.out.1.b,by simp;omega⟩,hsb.out.2⟩,qh3 _ _ hat _ _,B3.out.setCell (p:=⟨D,1,none⟩) hD _⟩⟩
 case rest=>
  obtain⟨rfl,hwi⟩:=hcut;obtain⟨lvb,bad,N0,hLb,hSt,hRf,hB0⟩:=hwi.out;clear hwi c0 c1 c2' c3 z0 z1 z2 z3 y3 cdr hown2 hLR N7 hrl hsb hmdh B3 hT hT1 htm m5;obtain⟨a6,c6,rfl⟩:=hLb.shape;have hB0h:=Lh (B2.out.trans (hB0.mono B2.out.size));have c0:=N0.c0;have c1:=N0.c1;have c2':=N0.c2;have c3:=N0.c3;have cl:=qgE (.agg #[.slice a6 bad.ls.length c6,.int .u64 (bad.bits:Int),.bool bad.st,.int .i64 bad.t]) bad hSt.1 hSt.2.1 hSt.2.2 wc (GG.out _ hB0h.out) ⟨_,rfl,hLb⟩;rw[qib hRf] at cl;simp only[show BS []=(⟨#[]⟩:ByteArray)from rfl] at cl;replace cl:=Lh cl;have hSL0:=Lh (hSL.out.on hB0);replace hLb:=Lh hLb;replace N0:=Lh N0;obtain⟨k,hk⟩: ∃k,Hid (at'%(ss.length+1)=k):=⟨_,Lh rfl⟩;have hkl:k≤ss.length:=by have:=hk.out;have:=Nat.mod_lt at' (show 0<ss.length+1 by omega);omega
  have ek:((at':Int)%((ss.length:Int)+1))=(k:Int):=by rw[←hk.out];simp
  have hlz:((ss.length:Int)+1==0)=false:=by simp;omega
  clear hSL hB0;go_wp2_with fail;refine cl.out.mono ?_;rintro e w6 ⟨rfl,Bq⟩;replace N0:=Lh (N0.out.on Bq);replace hLb:=Lh (hLb.out.on Bq);replace hSL0:=Lh (hSL0.out.on Bq);have hB6:=Lh (hB0h.out.trans (Bq.mono hB0h.out.size));clear cl Bq c0 c1 c2' c3 hB0h;go_upto_region 20 with (fail)
  rw[ek];obtain⟨ps,hps,hRow,hpl,hpn,hcap⟩:=qmZ hSL0.out;have hkp:k≤ps.length:=by omega
  have hr3:=hRow.take hkl;rw[qgH ps k hkp] at hr3;have hr10:=hRow.drop hkl;rw[qgV ps k hkp] at hr10;have h3:=Lh (fun W=>qmO av ss.length cv k (by omega) W);have h10:=Lh (fun W=>qma av ss.length cv k hkl hcap W);have ho1:=qeh w6 (ps.take k) (fun p hp=>hpl p (List.mem_of_mem_take hp));have ho2:=qeh w6 (ps.drop k) (fun p hp=>hpl p (List.mem_of_mem_drop hp));have hk12:ss.length≤12:=hlen;obtain⟨u10,hu10⟩: ∃u,(Value.slice (if cv=k then av else av.map (·.add (k*4))) (ss.length - k) (cv - k))=u:=⟨_,rfl⟩;rw[hu10] at h10 hr10;replace hr3:=Lh hr3;replace hr10:=Lh hr10;obtain⟨pb,hpb⟩: ∃p,qam [(bad,.slice a6 bad.ls.length c6),(qaL,.slice none 0 0)]=p:=⟨_,rfl⟩
  have hpb1: ∀c∈pb,c.oneCell'=true:=by
   rw[←hpb];intro c hc;simp[qam,qgn] at hc;rcases hc with rfl|rfl|rfl|rfl|rfl|rfl|rfl|rfl<;>rfl
  have hpbC:(#[.slice a6 bad.ls.length c6,.int .u64 (bad.bits:Int),.bool bad.st,.int .i64 bad.t,.slice none 0 0,.int .u64 0,.bool false,.int .i64 0]:Array Value).toList=pb:=by rw[←hpb];rfl
  have hsS:Hid (∀s∈ss.take k++bad::qaL::ss.drop k,SBt s):=Lh (fun s hs=>by
   rcases List.mem_append.1 hs with hs|hs
   ·exact hbt.out s (List.mem_of_mem_take hs)
   ·rcases List.mem_cons.1 hs with rfl|hs
    ·exact hSt
    ·rcases List.mem_cons.1 hs with rfl|hs
     ·exact⟨⟨by decide,(fun x hx=>by cases hx),by decide⟩,by decide,by decide⟩
     ·exact hbt.out s (List.mem_of_mem_drop hs))
  have hsW:Hid (qcV (ss.take k++bad::qaL::ss.drop k)=(239,(k:Int),[])):=Lh (by
   rw[qhU bad hRf _ _ (fun s hs=>hok.out s (List.mem_of_mem_take hs)),List.length_take,Nat.min_eq_left hkl])
  have hsE:Hid ((ps.take k++(bad,Value.slice a6 bad.ls.length c6)::(qaL,Value.slice none 0 0)::ps.drop k).map Prod.fst=ss.take k++bad::qaL::ss.drop k):=Lh (by
   rw[List.map_append,List.map_cons,List.map_cons,List.map_take,List.map_drop,hps])
  have hsC:Hid (qam (ps.take k++(bad,Value.slice a6 bad.ls.length c6)::(qaL,Value.slice none 0 0)::ps.drop k)=qam (ps.take k)++pb++qam (ps.drop k)):=Lh (by
   rw[qbh,show qam ((bad,Value.slice a6 bad.ls.length c6)::(qaL,Value.slice none 0 0)::ps.drop k)=qam [(bad,Value.slice a6 bad.ls.length c6),(qaL,Value.slice none 0 0)]++qam (ps.drop k) by rw[←qbh];rfl,hpb,List.append_assoc])
  have hsL:Hid (∀p∈ps.take k++(bad,Value.slice a6 bad.ls.length c6)::(qaL,Value.slice none 0 0)::ps.drop k,qaC w6 p.2 p.1.ls):=Lh (fun p hp=>by
   rcases List.mem_append.1 hp with hp|hp
   ·exact hpl p (List.mem_of_mem_take hp)
   ·rcases List.mem_cons.1 hp with rfl|hp
    ·exact hLb.out
    ·rcases List.mem_cons.1 hp with rfl|hp
     ·exact qaC.of_owned (base:=0) ⟨rfl,.inl ⟨rfl,rfl⟩⟩
     ·exact hpl p (List.mem_of_mem_drop hp))
  have hsN:Hid ((ps.take k++(bad,Value.slice a6 bad.ls.length c6)::(qaL,Value.slice none 0 0)::ps.drop k).length=k+2+(ss.length - k)):=Lh (by
   rw[List.length_append,List.length_cons,List.length_cons,List.length_take,List.length_drop];omega)
  have hsn:Hid ((ss.take k++bad::qaL::ss.drop k).length≤1000):=Lh (by
   rw[List.length_append,List.length_cons,List.length_cons,List.length_take,List.length_drop];omega)
  obtain⟨PS,hPS⟩: ∃PS,ps.take k++(bad,Value.slice a6 bad.ls.length c6)::(qaL,Value.slice none 0 0)::ps.drop k=PS:=⟨_,rfl⟩;rw[hPS] at hsE hsC hsL hsN;obtain⟨SS,hSS⟩: ∃SS,ss.take k++bad::qaL::ss.drop k=SS:=⟨_,rfl⟩;rw[hSS] at hsE hsS hsW hsn;obtain⟨p1,hp1⟩: ∃p,qam (ps.take k)=p:=⟨_,rfl⟩;obtain⟨p2,hp2⟩: ∃p,qam (ps.drop k)=p:=⟨_,rfl⟩;rw[hp1] at hr3 hsC ho1;rw[hp2] at hr10 hsC ho2;have c0:=N0.out.c0;have c1:=N0.out.c1;have c2':=N0.out.c2;have c3:=N0.out.c3;have hDl:=N0.out.lt;have h20: ∀args W,(callFunc 20 args).run Tryz.prog W= .ok (.enter 20 args) W:=enters_of Tryz.func20 (by kernel_rfl) rfl;replace h20:=Lh h20;clear hRow hpl hPS hSS hp1 hp2 hpb hu10 hps hpn
  refine qd8 (fun j=>([[],[],[],[1,2],[0,3],[],[],[5,6],[4,7],[],[],[9,10],[8,11],[12],[13],[14],[14],[14],[15],[16],[17]]:List (List Nat)).getD j []) [18,19,20] [0,4,7,8,12] [8,12]
   (XW w6.heap.size k ss.length (.slice av ss.length cv) (.slice av k cv) u10 (.agg #[.slice a6 bad.ls.length c6,.int .u64 (bad.bits:Int),.bool bad.st,.int .i64 bad.t]) p1 p2 pb)
   (by kernel_rfl) (by kernel_rfl) (by decide+kernel) (by kernel_rfl) (by decide+kernel) (fun j hj=>by rw[List.getD_eq_getElem?_getD,List.getElem?_eq_none (show 21≤j from hj)];rfl) (by decide+kernel) ?_ ?_ ?_ ?_
  ·intro i v w w' h hb;rcases i with _|_|_|_|_|_|_|_|_|_|_|_|_|_|_|_|_|_|_|_|_|i
   all_goals first|exact h|exact qaf h hb|exact Go.Proofs.YtdeimnnpcfncpaaGreatDoor.RowK.on h hb|exact⟨h.choose,h.choose_spec.1,qaf h.choose_spec.2 hb⟩
  ·intro i v w w' hf _ h _;rcases i with _|_|_|_|_|_|_|_|_|_|_|_|_|_|_|_|_|_|_|_|_|i
   all_goals first|exact h|(exfalso;revert hf;decide)|skip
  ·intro i;rcases i with _|_|_|_|_|_|_|_|_|_|_|_|_|_|_|_|_|_|_|_|_|i
   all_goals intro oo hoo a wa hba hout hpre
   all_goals cases hoo
   all_goals have q9:a.tmps.getD 9 undef= .slice av ss.length cv:=(hout 9 (by decide+kernel)).trans rfl
   all_goals have q16:a.tmps.getD 16 undef= .int .i64 k:=(hout 16 (by decide+kernel)).trans rfl
   all_goals have q11:a.tmps.getD 11 undef= .pointer (some ⟨D,0,none⟩):=(hout 11 (by decide+kernel)).trans rfl
   all_goals clear hout
   ·exact qgW rfl (qab rfl) rfl (qoZ wa) ⟨_,rfl,(Below.refl _ _).alloc (Nat.le_refl _) _,_,rfl,World.ownsRow_lit wa #[] 0 hba.size (by unfold maxLen;omega) rfl⟩
   ·exact qap rfl (qab rfl) (.inl rfl) ⟨_,rfl,Below.refl _ _,q9⟩
   ·exact qap rfl (qab rfl) (.inl rfl) ⟨_,rfl,Below.refl _ _,q16⟩
   ·have e1:a.tmps.getD 99 undef= .slice av ss.length cv:=hpre 1 (by simp) _ rfl;have e2:a.tmps.getD 100 undef= .int .i64 k:=hpre 2 (by simp) _ rfl;exact qe1 rfl (qab rfl) rfl e1 e2 (h3.out wa) ⟨_,rfl,Below.refl _ _,rfl⟩
   ·obtain⟨b,e1,e2⟩: ∃b,a.tmps.getD 98 undef= .slice (some ⟨b,0,none⟩) 0 0∧wa.ownsRow w6.heap.size 34 4 (a.tmps.getD 98 undef) 0 []:=hpre 0 (by simp) _ rfl;have e3:a.tmps.getD 101 undef= .slice av k cv:=hpre 3 (by simp) _ rfl;rw[e1] at e2;refine qey (k:=4) (m:=k) (z:= .agg #[.slice none 0 0,.int .u64 0,.bool false,.int .i64 0]) (bytes:=48) (by decide) rfl rfl rfl Tryz.underlying28 qdO rfl _ p1 e1 e2 e3 (hr3.out.on hba) ho1 (by decide) (by omega) hba.size ?_;intro v' w' g1 g2;exact⟨_,rfl,g2,g1⟩
   ·refine qbc rfl (qab rfl) rfl q11 ?_ ⟨_,rfl,Below.refl _ _,rfl⟩;have k0:=(hba.cell (p:=⟨D,0,none⟩) hDl).trans c0;have k1:=(hba.cell (p:=⟨D,1,none⟩) hDl).trans c1;have k2:=(hba.cell (p:=⟨D,2,none⟩) hDl).trans c2';have k3:=(hba.cell (p:=⟨D,3,none⟩) hDl).trans c3;simp[go_sem,k0,k1,k2,k3]
   ·exact qan rfl (qab rfl) (qp7 wa _ rfl _) ⟨_,rfl,Below.refl _ _,rfl⟩
   ·have e1:a.tmps.getD 103 undef= .agg #[.slice a6 bad.ls.length c6,.int .u64 (bad.bits:Int),.bool bad.st,.int .i64 bad.t]:=hpre 5 (by simp) _ rfl;have e2:a.tmps.getD 104 undef= .agg #[.slice none 0 0,.int .u64 0,.bool false,.int .i64 0]:=hpre 6 (by simp) _ rfl;refine qgI rfl (qab rfl) rfl e1 e2 (qoG wa _ _ _ _ _ _ _ _) ⟨_,rfl,(Below.refl _ _).alloc (Nat.le_refl _) _,?_⟩;show qko 4 _ _ 2 pb;rw[←hpbC];exact ql3 wa _ 4 2 rfl (by unfold maxLen;omega)
   ·have e1:wa.ownsRow w6.heap.size 34 4 (a.tmps.getD 102 undef) k p1:=hpre 4 (by simp) _ rfl;have e2:qko 4 wa (a.tmps.getD 105 undef) 2 pb:=hpre 7 (by simp) _ rfl;refine qcp (k:=4) (m:=2) (z:= .agg #[.slice none 0 0,.int .u64 0,.bool false,.int .i64 0]) (bytes:=48) (by decide) rfl rfl rfl Tryz.underlying28 qdO rfl _ _ _ pb rfl e1 rfl e2 hpb1 (by decide) (by omega) hba.size ?_;intro v' w' g1 g2 _;exact⟨_,rfl,g2,g1⟩
   ·exact qap rfl (qab rfl) (.inl rfl) ⟨_,rfl,Below.refl _ _,q9⟩
   ·exact qap rfl (qab rfl) (.inl rfl) ⟨_,rfl,Below.refl _ _,q16⟩
   ·have e1:a.tmps.getD 107 undef= .slice av ss.length cv:=hpre 9 (by simp) _ rfl;have e2:a.tmps.getD 108 undef= .int .i64 k:=hpre 10 (by simp) _ rfl;exact qeG rfl (qab rfl) rfl e1 e2 (h10.out wa) ⟨_,rfl,Below.refl _ _,rfl⟩
   ·have e1:wa.ownsRow w6.heap.size 34 4 (a.tmps.getD 106 undef) (k+2) (p1++pb):=hpre 8 (by simp) _ rfl;have e2:a.tmps.getD 109 undef=u10:=hpre 11 (by simp) _ rfl;refine qcp (k:=4) (m:=ss.length - k) (z:= .agg #[.slice none 0 0,.int .u64 0,.bool false,.int .i64 0]) (bytes:=48) (by decide) rfl rfl rfl Tryz.underlying28 qdO rfl _ _ _ p2 rfl e1 e2 (hr10.out.on hba) ho2 (by decide) (by omega) hba.size ?_;intro v' w' g1 g2 _;exact⟨_,rfl,g2,g1⟩
   ·have e1:wa.ownsRow w6.heap.size 34 4 (a.tmps.getD 110 undef) (k+2+(ss.length - k)) (p1++pb++p2):=hpre 12 (by simp) _ rfl;rw[←hsC.out,←hsN.out] at e1;have e2:=qmS e1 (fun p hp=>(hsL.out p hp).on hba);rw[hsE.out] at e2;refine qby rfl (qab rfl) _ (qmo rfl) (h20.out _ _) ((qmh _ SS (by have:=hsn.out;omega) hsS.out wa (GG.out _ (hB6.out.trans (hba.mono hB6.out.size))) e2).mono ?_);rintro e w' ⟨rfl,hb'⟩;exact⟨_,rfl,_,rfl,hb',by rw[hsW.out];rfl⟩
   ·have e1:a.tmps.getD 111 undef=_:=hpre 13 (by simp) _ rfl;exact qap rfl (qab rfl) (.inl rfl) ⟨_,rfl,Below.refl _ _,e1⟩
   ·have e1:a.tmps.getD 97 undef=_:=hpre 14 (by simp) _ rfl;exact qbY rfl (qab rfl) rfl e1 rfl ⟨_,rfl,Below.refl _ _,rfl⟩
   ·have e1:a.tmps.getD 97 undef=_:=hpre 14 (by simp) _ rfl;exact qbY rfl (qab rfl) rfl e1 rfl ⟨_,rfl,Below.refl _ _,rfl⟩
   ·have e1:a.tmps.getD 97 undef=_:=hpre 14 (by simp) _ rfl;exact qbY rfl (qab rfl) rfl e1 rfl ⟨_,rfl,Below.refl _ _,rfl⟩
   ·have e1:a.tmps.getD 112 undef=_:=hpre 15 (by simp) _ rfl;exact qap rfl (qab rfl) (.inr rfl) ⟨_,rfl,Below.refl _ _,e1⟩
   ·have e1:a.tmps.getD 113 undef=_:=hpre 16 (by simp) _ rfl;exact qap rfl (qab rfl) (.inr rfl) ⟨_,rfl,Below.refl _ _,e1⟩
   ·have e1:a.tmps.getD 114 undef=_:=hpre 17 (by simp) _ rfl;exact qap rfl (qab rfl) (.inr rfl) ⟨_,rfl,Below.refl _ _,e1⟩
  ·intro a wa hba hF ha;have f17:a.tmps.getD 17 undef= .string ⟨#[]⟩:=hF 18 (by simp) _ rfl;have f18:a.tmps.getD 18 undef= .int .i64 k:=hF 19 (by simp) _ rfl;have f19:a.tmps.getD 19 undef= .int .i64 239:=hF 20 (by simp) _ rfl;clear hF;simp only[List.foldl,qat] at ha;rw[f17,f18,f19] at ha;clear f17 f18 f19;generalize a.tmps.getD 97 undef=z97 at ha;generalize a.tmps.getD 98 undef=z98 at ha;generalize a.tmps.getD 99 undef=z99 at ha;generalize a.tmps.getD 100 undef=z100 at ha;generalize a.tmps.getD 101 undef=z101 at ha;generalize a.tmps.getD 102 undef=z102 at ha;generalize a.tmps.getD 103 undef=z103 at ha;generalize a.tmps.getD 104 undef=z104 at ha;generalize a.tmps.getD 105 undef=z105 at ha;generalize a.tmps.getD 106 undef=z106 at ha;generalize a.tmps.getD 107 undef=z107 at ha;generalize a.tmps.getD 108 undef=z108 at ha;generalize a.tmps.getD 109 undef=z109 at ha;generalize a.tmps.getD 110 undef=z110 at ha;generalize a.tmps.getD 111 undef=z111 at ha;generalize a.tmps.getD 112 undef=z112 at ha;generalize a.tmps.getD 113 undef=z113 at ha;generalize a.tmps.getD 114 undef=z114 at ha;subst ha;simp only[Act.put,List.setIfInBounds_toArray,List.set_cons_succ,List.set_cons_zero];have N1:=N0.out.on hba;have hL1:=hLb.out.on hba;have hBa:=Lh (hB6.out.trans (hba.mono hB6.out.size));have c0:=N1.c0;have c1:=N1.c1;have c2':=N1.c2;have c3:=N1.c3;have cr:=qhM (.agg #[.slice a6 bad.ls.length c6,.int .u64 (bad.bits:Int),.bool bad.st,.int .i64 bad.t]) bad hSt.1 wa ⟨_,rfl,hL1⟩;rw[hRf] at cr;replace cr:=Lh cr;clear N1 hL1 hr3 hr10 h3 h10 ho1 ho2 hpb1 hpbC hsS hsW hsE hsC hsL hsN hsn h20 hba;go_wp2_with fail;refine cr.out.mono ?_;rintro e w8 ⟨rfl,B8⟩;have hB8:=hBa.out.trans (B8.mono hBa.out.size);go_wp2_with fail;go_ret;exact⟨rfl,hB8⟩
end Go.Proofs.YtdeimnnpcfncpaaGreatDoor.X
end
section
namespace Go.Proofs.YtdeimnnpcfncpaaGreatDoor
open Go Go.RowKit
theorem expoWrong_walk (a0:Option Addr) (len0 cap0:Nat) (z0:List X.Sm) (s1:X.Sm) (lv1:Value) (a2 a3:Int) (w:World) (h0:z0.length=len0) (w0:X.SmRow w (.slice a0 z0.length cap0) z0) (c1:len0≤cap0) (c2:len0≤maxLen)
 (ok1:X.SmOk s1) (sv1:X.SmV w lv1 s1) (w2:(Lit.int .u8 a2).wf=true) (w3:(Lit.int .u8 a3).wf=true) (hG:X.EGlb w):
 Calls Tryz.prog 3 #[.slice a0 len0 cap0,.agg #[.int .u8 (s1.nm:Int),lv1,.int .u64 (s1.bits:Int),.int .i64 s1.tm,.bool s1.td],.int .u8 a2,.int .u8 a3] w fun e w'=>e= .returned (.bool true)∧Below w.heap.size w w':=by
 subst h0;obtain⟨b,rfl,hb⟩:=qpF w2;obtain⟨t,rfl,ht⟩:=qpF w3;exact X.expoWrong_any a0 cap0 z0 s1 lv1 b t hb ht w w0 c1 c2 ok1 sv1 hG
end Go.Proofs.YtdeimnnpcfncpaaGreatDoor
end
